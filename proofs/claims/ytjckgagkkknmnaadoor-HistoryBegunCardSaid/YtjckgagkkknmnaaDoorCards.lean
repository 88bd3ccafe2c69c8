/-
  DERIVED. GIVEN WITH THE SEED: THE CARDS: each row of YtjckgagkkknmnaaDoorRows.lean that lists a variable, with what it lists TIED to the program's text (the seventh form; the later family's looks); each row that meets fmt, with fmt's text TOLD by the authors' own Lean function (tested against real Go, not proved from fmt's source: count such statements apart). THE CARD IS WHAT COUNTS. Prove the row's statement (the work); the ties are given (YtjckgagkkknmnaaDoorTie.lean); close each card by the builder's one call (the guide's Derived/Test/ToyasCard.lean, 'card_holds'). Laid BY PROGRAM, IN A SANDBOX (cutbox-door.mjs). By AI agents, Wed Nov 11 2026. No macro, syntax, notation, axiom, sorry.
-/
import Derived.Test.YtjckgagkkknmnaaDoorRows
import GoSem.ClaimSeven
namespace Go.Proofs.YtjckgagkkknmnaaDoor
namespace Rows

/-- THE TIED CARD OF 'seesawlaw25.HistoryRow'. -/
def historyRowCard : Claim7 := { stood := { row := historyRowRow, standIns := [], harness := (true, "96266661c5d3c1403ae0a8074f52a3083f8264d98b62d012658349155f1ab7c5"), looks := false }, kinds := [], alts := [], laidByText := true, laidKinds := [.data, .funcs], laidTests := true, laidLooks := .later }
def HistoryRowCardSaid : Prop := Claim7.holds Tryd.pinned (.plain (OpenSpec.ofChange historyRowSpec)) historyRowCard

/-- THE TIED CARD OF 'seesawlaw25.HistoryVersions'. -/
def historyVersionsCard : Claim7 := { stood := { row := historyVersionsRow, standIns := [], harness := (true, "96266661c5d3c1403ae0a8074f52a3083f8264d98b62d012658349155f1ab7c5"), looks := false }, kinds := [], alts := [], laidByText := true, laidKinds := [.data, .funcs], laidTests := true, laidLooks := .later }
def HistoryVersionsCardSaid : Prop := Claim7.holds Tryd.pinned (.plain (OpenSpec.ofChange historyVersionsSpec)) historyVersionsCard

/-- THE TIED CARD OF 'seesawlaw25.HistoryBegun'. -/
def historyBegunCard : Claim7 := { stood := { row := historyBegunRow, standIns := [], harness := (true, "96266661c5d3c1403ae0a8074f52a3083f8264d98b62d012658349155f1ab7c5"), looks := false }, kinds := [], alts := [], laidByText := true, laidKinds := [.data, .funcs], laidTests := true, laidLooks := .later }
def HistoryBegunCardSaid : Prop := Claim7.holds Tryd.pinned (.plain (OpenSpec.ofChange historyBegunSpec)) historyBegunCard

/-- THE TIED CARD OF 'seesawlaw25.HistoryEach'. -/
def historyEachCard : Claim7 := { stood := { row := historyEachRow, standIns := [], harness := (true, "96266661c5d3c1403ae0a8074f52a3083f8264d98b62d012658349155f1ab7c5"), looks := false }, kinds := [], alts := [], laidByText := true, laidKinds := [.data, .funcs], laidTests := true, laidLooks := .later }
def HistoryEachCardSaid : Prop := Claim7.holds Tryd.pinned (.plain (OpenSpec.ofChange historyEachSpec)) historyEachCard

/-- THE TIED CARD OF 'seesawlaw25.HistoryNames'. -/
def historyNamesCard : Claim7 := { stood := { row := historyNamesRow, standIns := [], harness := (true, "96266661c5d3c1403ae0a8074f52a3083f8264d98b62d012658349155f1ab7c5"), looks := false }, kinds := [], alts := [], laidByText := true, laidKinds := [.data, .funcs], laidTests := true, laidLooks := .later }
def HistoryNamesCardSaid : Prop := Claim7.holds Tryd.pinned (.plain (OpenSpec.ofChange historyNamesSpec)) historyNamesCard

/-- THE TIED CARD OF 'seesawlaw25.HistoryTells'. -/
def historyTellsCard : Claim7 := { stood := { row := historyTellsRow, standIns := [], harness := (true, "96266661c5d3c1403ae0a8074f52a3083f8264d98b62d012658349155f1ab7c5"), looks := false }, kinds := [], alts := [], laidByText := true, laidKinds := [.data, .data, .funcs], laidTests := true, laidLooks := .later }
def HistoryTellsCardSaid : Prop := Claim7.holds Tryd.pinned (.plain (OpenSpec.ofChange historyTellsSpec)) historyTellsCard

/-- THE SECOND FORM's CARD OF 'seesawlaw25.HistoryRow'. -/
def historyRowUptoCard : Claim7 := { stood := { row := historyRowUptoRow, standIns := [], harness := (true, "96266661c5d3c1403ae0a8074f52a3083f8264d98b62d012658349155f1ab7c5"), looks := false }, kinds := [], alts := [], laidByText := true, laidKinds := [.data, .funcs], laidTests := true, laidLooks := .later }
def HistoryRowUptoCardSaid : Prop := Claim7.holds Tryd.pinned (.plain (OpenSpec.upto historyRowSpec)) historyRowUptoCard

/-- THE SECOND FORM's CARD OF 'seesawlaw25.HistoryVersions'. -/
def historyVersionsUptoCard : Claim7 := { stood := { row := historyVersionsUptoRow, standIns := [], harness := (true, "96266661c5d3c1403ae0a8074f52a3083f8264d98b62d012658349155f1ab7c5"), looks := false }, kinds := [], alts := [], laidByText := true, laidKinds := [.data, .funcs], laidTests := true, laidLooks := .later }
def HistoryVersionsUptoCardSaid : Prop := Claim7.holds Tryd.pinned (.plain (OpenSpec.upto historyVersionsSpec)) historyVersionsUptoCard

/-- THE SECOND FORM's CARD OF 'seesawlaw25.HistoryBegun'. -/
def historyBegunUptoCard : Claim7 := { stood := { row := historyBegunUptoRow, standIns := [], harness := (true, "96266661c5d3c1403ae0a8074f52a3083f8264d98b62d012658349155f1ab7c5"), looks := false }, kinds := [], alts := [], laidByText := true, laidKinds := [.data, .funcs], laidTests := true, laidLooks := .later }
def HistoryBegunUptoCardSaid : Prop := Claim7.holds Tryd.pinned (.plain (OpenSpec.upto historyBegunSpec)) historyBegunUptoCard

/-- THE SECOND FORM's CARD OF 'seesawlaw25.HistoryEach'. -/
def historyEachUptoCard : Claim7 := { stood := { row := historyEachUptoRow, standIns := [], harness := (true, "96266661c5d3c1403ae0a8074f52a3083f8264d98b62d012658349155f1ab7c5"), looks := false }, kinds := [], alts := [], laidByText := true, laidKinds := [.data, .funcs], laidTests := true, laidLooks := .later }
def HistoryEachUptoCardSaid : Prop := Claim7.holds Tryd.pinned (.plain (OpenSpec.upto historyEachSpec)) historyEachUptoCard

/-- THE SECOND FORM's CARD OF 'seesawlaw25.HistoryNames'. -/
def historyNamesUptoCard : Claim7 := { stood := { row := historyNamesUptoRow, standIns := [], harness := (true, "96266661c5d3c1403ae0a8074f52a3083f8264d98b62d012658349155f1ab7c5"), looks := false }, kinds := [], alts := [], laidByText := true, laidKinds := [.data, .funcs], laidTests := true, laidLooks := .later }
def HistoryNamesUptoCardSaid : Prop := Claim7.holds Tryd.pinned (.plain (OpenSpec.upto historyNamesSpec)) historyNamesUptoCard

/-- THE SECOND FORM's CARD OF 'seesawlaw25.HistoryTells'. -/
def historyTellsUptoCard : Claim7 := { stood := { row := historyTellsUptoRow, standIns := [], harness := (true, "96266661c5d3c1403ae0a8074f52a3083f8264d98b62d012658349155f1ab7c5"), looks := false }, kinds := [], alts := [], laidByText := true, laidKinds := [.data, .data, .funcs], laidTests := true, laidLooks := .later }
def HistoryTellsUptoCardSaid : Prop := Claim7.holds Tryd.pinned (.plain (OpenSpec.upto historyTellsSpec)) historyTellsUptoCard
end Rows
end Go.Proofs.YtjckgagkkknmnaaDoor
