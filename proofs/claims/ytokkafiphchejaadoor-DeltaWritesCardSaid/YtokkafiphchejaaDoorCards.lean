/-
  DERIVED. GIVEN WITH THE SEED: THE CARDS: each row of YtokkafiphchejaaDoorRows.lean that lists a variable, with what it lists TIED to the program's text (the seventh form; the later family's looks); each row that meets fmt, with fmt's text TOLD by the authors' own Lean function (tested against real Go, not proved from fmt's source: count such statements apart). THE CARD IS WHAT COUNTS. Prove the row's statement (the work); the ties are given (YtokkafiphchejaaDoorTie.lean); close each card by the builder's one call (the guide's Derived/Test/ToyasCard.lean, 'card_holds'). Laid BY PROGRAM, IN A SANDBOX (cutbox-door.mjs). By AI agents, Wed Nov 11 2026. No macro, syntax, notation, axiom, sorry.
-/
import Derived.Test.YtokkafiphchejaaDoorRows
import GoSem.ClaimSeven
namespace Go.Proofs.YtokkafiphchejaaDoor
namespace Rows

/-- THE TIED CARD OF 'seesawlaw14.DeltaSmall'. -/
def deltaSmallCard : Claim7 := { stood := { row := deltaSmallRow, standIns := [], harness := (true, "2561d8b845671eca41e61f12c9c04bb18b1e85be66a2a64c7ad383c25ec402ff"), looks := false }, kinds := [], alts := [], laidByText := true, laidKinds := [.funcs], laidTests := true, laidLooks := .later }
def DeltaSmallCardSaid : Prop := Claim7.holds Tryd.pinned (.plain (OpenSpec.ofChange deltaSmallSpec)) deltaSmallCard

/-- THE TIED CARD OF 'seesawlaw14.DeltaWrites'. -/
def deltaWritesCard : Claim7 := { stood := { row := deltaWritesRow, standIns := [], harness := (true, "2561d8b845671eca41e61f12c9c04bb18b1e85be66a2a64c7ad383c25ec402ff"), looks := false }, kinds := [], alts := [], laidByText := true, laidKinds := [.data, .funcs], laidTests := true, laidLooks := .later }
def DeltaWritesCardSaid : Prop := Claim7.holds Tryd.pinned (.plain (OpenSpec.ofChange deltaWritesSpec)) deltaWritesCard

/-- THE TIED CARD OF 'seesawlaw14.DeltaReads'. -/
def deltaReadsCard : Claim7 := { stood := { row := deltaReadsRow, standIns := [], harness := (true, "2561d8b845671eca41e61f12c9c04bb18b1e85be66a2a64c7ad383c25ec402ff"), looks := false }, kinds := [], alts := [], laidByText := true, laidKinds := [.funcs], laidTests := true, laidLooks := .later }
def DeltaReadsCardSaid : Prop := Claim7.holds Tryd.pinned (.plain (OpenSpec.ofChange deltaReadsSpec)) deltaReadsCard

/-- THE TIED CARD OF 'seesawlaw14.DeltaAnew'. -/
def deltaAnewCard : Claim7 := { stood := { row := deltaAnewRow, standIns := [], harness := (true, "2561d8b845671eca41e61f12c9c04bb18b1e85be66a2a64c7ad383c25ec402ff"), looks := false }, kinds := [], alts := [], laidByText := true, laidKinds := [.funcs], laidTests := true, laidLooks := .later }
def DeltaAnewCardSaid : Prop := Claim7.holds Tryd.pinned (.plain (OpenSpec.ofChange deltaAnewSpec)) deltaAnewCard

/-- THE TIED CARD OF 'seesawlaw14.DeltaNames'. -/
def deltaNamesCard : Claim7 := { stood := { row := deltaNamesRow, standIns := [], harness := (true, "2561d8b845671eca41e61f12c9c04bb18b1e85be66a2a64c7ad383c25ec402ff"), looks := false }, kinds := [], alts := [], laidByText := true, laidKinds := [.funcs], laidTests := true, laidLooks := .later }
def DeltaNamesCardSaid : Prop := Claim7.holds Tryd.pinned (.plain (OpenSpec.ofChange deltaNamesSpec)) deltaNamesCard

/-- THE TIED CARD OF 'seesawlaw14.DeltaBack'. -/
def deltaBackCard : Claim7 := { stood := { row := deltaBackRow, standIns := [], harness := (true, "2561d8b845671eca41e61f12c9c04bb18b1e85be66a2a64c7ad383c25ec402ff"), looks := false }, kinds := [], alts := [], laidByText := true, laidKinds := [.funcs], laidTests := true, laidLooks := .later }
def DeltaBackCardSaid : Prop := Claim7.holds Tryd.pinned (.plain (OpenSpec.ofChange deltaBackSpec)) deltaBackCard

/-- THE SECOND FORM's CARD OF 'seesawlaw14.DeltaSmall'. -/
def deltaSmallUptoCard : Claim7 := { stood := { row := deltaSmallUptoRow, standIns := [], harness := (true, "2561d8b845671eca41e61f12c9c04bb18b1e85be66a2a64c7ad383c25ec402ff"), looks := false }, kinds := [], alts := [], laidByText := true, laidKinds := [.funcs], laidTests := true, laidLooks := .later }
def DeltaSmallUptoCardSaid : Prop := Claim7.holds Tryd.pinned (.plain (OpenSpec.upto deltaSmallSpec)) deltaSmallUptoCard

/-- THE SECOND FORM's CARD OF 'seesawlaw14.DeltaWrites'. -/
def deltaWritesUptoCard : Claim7 := { stood := { row := deltaWritesUptoRow, standIns := [], harness := (true, "2561d8b845671eca41e61f12c9c04bb18b1e85be66a2a64c7ad383c25ec402ff"), looks := false }, kinds := [], alts := [], laidByText := true, laidKinds := [.data, .funcs], laidTests := true, laidLooks := .later }
def DeltaWritesUptoCardSaid : Prop := Claim7.holds Tryd.pinned (.plain (OpenSpec.upto deltaWritesSpec)) deltaWritesUptoCard

/-- THE SECOND FORM's CARD OF 'seesawlaw14.DeltaReads'. -/
def deltaReadsUptoCard : Claim7 := { stood := { row := deltaReadsUptoRow, standIns := [], harness := (true, "2561d8b845671eca41e61f12c9c04bb18b1e85be66a2a64c7ad383c25ec402ff"), looks := false }, kinds := [], alts := [], laidByText := true, laidKinds := [.funcs], laidTests := true, laidLooks := .later }
def DeltaReadsUptoCardSaid : Prop := Claim7.holds Tryd.pinned (.plain (OpenSpec.upto deltaReadsSpec)) deltaReadsUptoCard

/-- THE SECOND FORM's CARD OF 'seesawlaw14.DeltaAnew'. -/
def deltaAnewUptoCard : Claim7 := { stood := { row := deltaAnewUptoRow, standIns := [], harness := (true, "2561d8b845671eca41e61f12c9c04bb18b1e85be66a2a64c7ad383c25ec402ff"), looks := false }, kinds := [], alts := [], laidByText := true, laidKinds := [.funcs], laidTests := true, laidLooks := .later }
def DeltaAnewUptoCardSaid : Prop := Claim7.holds Tryd.pinned (.plain (OpenSpec.upto deltaAnewSpec)) deltaAnewUptoCard

/-- THE SECOND FORM's CARD OF 'seesawlaw14.DeltaNames'. -/
def deltaNamesUptoCard : Claim7 := { stood := { row := deltaNamesUptoRow, standIns := [], harness := (true, "2561d8b845671eca41e61f12c9c04bb18b1e85be66a2a64c7ad383c25ec402ff"), looks := false }, kinds := [], alts := [], laidByText := true, laidKinds := [.funcs], laidTests := true, laidLooks := .later }
def DeltaNamesUptoCardSaid : Prop := Claim7.holds Tryd.pinned (.plain (OpenSpec.upto deltaNamesSpec)) deltaNamesUptoCard

/-- THE SECOND FORM's CARD OF 'seesawlaw14.DeltaBack'. -/
def deltaBackUptoCard : Claim7 := { stood := { row := deltaBackUptoRow, standIns := [], harness := (true, "2561d8b845671eca41e61f12c9c04bb18b1e85be66a2a64c7ad383c25ec402ff"), looks := false }, kinds := [], alts := [], laidByText := true, laidKinds := [.funcs], laidTests := true, laidLooks := .later }
def DeltaBackUptoCardSaid : Prop := Claim7.holds Tryd.pinned (.plain (OpenSpec.upto deltaBackSpec)) deltaBackUptoCard
end Rows
end Go.Proofs.YtokkafiphchejaaDoor
