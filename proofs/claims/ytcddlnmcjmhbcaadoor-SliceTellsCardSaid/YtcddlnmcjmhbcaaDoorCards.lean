/-
  DERIVED. GIVEN WITH THE SEED: THE CARDS: each row of YtcddlnmcjmhbcaaDoorRows.lean that lists a variable, with what it lists TIED to the program's text (the seventh form; the later family's looks); each row that meets fmt, with fmt's text TOLD by the authors' own Lean function (tested against real Go, not proved from fmt's source: count such statements apart). THE CARD IS WHAT COUNTS. Prove the row's statement (the work); the ties are given (YtcddlnmcjmhbcaaDoorTie.lean); close each card by the builder's one call (the guide's Derived/Test/ToyasCard.lean, 'card_holds'). Laid BY PROGRAM, IN A SANDBOX (cutbox-door.mjs). By AI agents, Wed Nov 11 2026. No macro, syntax, notation, axiom, sorry.
-/
import Derived.Test.YtcddlnmcjmhbcaaDoorRows
import GoSem.ClaimSeven
namespace Go.Proofs.YtcddlnmcjmhbcaaDoor
namespace Rows

/-- THE TIED CARD OF 'seesawlaw13.ShapeChecks'. -/
def shapeChecksCard : Claim7 := { stood := { row := shapeChecksRow, standIns := [], harness := (true, "8f16a371d70cea2738654a18cbf1b0864ccf210db9b36543be3650501d9e2588"), looks := false }, kinds := [], alts := [], laidByText := true, laidKinds := [.data, .data, .funcs], laidTests := true, laidLooks := .later }
def ShapeChecksCardSaid : Prop := Claim7.holds Tryd.pinned (.plain (OpenSpec.ofChange shapeChecksSpec)) shapeChecksCard

/-- THE TIED CARD OF 'seesawlaw25.HistoryTells'. -/
def historyTellsCard : Claim7 := { stood := { row := historyTellsRow, standIns := [], harness := (true, "8f16a371d70cea2738654a18cbf1b0864ccf210db9b36543be3650501d9e2588"), looks := false }, kinds := [], alts := [], laidByText := true, laidKinds := [.data, .data, .funcs], laidTests := true, laidLooks := .later }
def HistoryTellsCardSaid : Prop := Claim7.holds Tryd.pinned (.plain (OpenSpec.ofChange historyTellsSpec)) historyTellsCard

/-- THE TIED CARD OF 'seesawlaw29.SliceTells'. -/
def sliceTellsCard : Claim7 := { stood := { row := sliceTellsRow, standIns := [], harness := (true, "8f16a371d70cea2738654a18cbf1b0864ccf210db9b36543be3650501d9e2588"), looks := false }, kinds := [], alts := [], laidByText := true, laidKinds := [.data, .data, .funcs], laidTests := true, laidLooks := .later }
def SliceTellsCardSaid : Prop := Claim7.holds Tryd.pinned (.plain (OpenSpec.ofChange sliceTellsSpec)) sliceTellsCard

/-- THE SECOND FORM's CARD OF 'seesawlaw13.ShapeChecks'. -/
def shapeChecksUptoCard : Claim7 := { stood := { row := shapeChecksUptoRow, standIns := [], harness := (true, "8f16a371d70cea2738654a18cbf1b0864ccf210db9b36543be3650501d9e2588"), looks := false }, kinds := [], alts := [], laidByText := true, laidKinds := [.data, .data, .funcs], laidTests := true, laidLooks := .later }
def ShapeChecksUptoCardSaid : Prop := Claim7.holds Tryd.pinned (.plain (OpenSpec.upto shapeChecksSpec)) shapeChecksUptoCard

/-- THE SECOND FORM's CARD OF 'seesawlaw25.HistoryTells'. -/
def historyTellsUptoCard : Claim7 := { stood := { row := historyTellsUptoRow, standIns := [], harness := (true, "8f16a371d70cea2738654a18cbf1b0864ccf210db9b36543be3650501d9e2588"), looks := false }, kinds := [], alts := [], laidByText := true, laidKinds := [.data, .data, .funcs], laidTests := true, laidLooks := .later }
def HistoryTellsUptoCardSaid : Prop := Claim7.holds Tryd.pinned (.plain (OpenSpec.upto historyTellsSpec)) historyTellsUptoCard

/-- THE SECOND FORM's CARD OF 'seesawlaw29.SliceTells'. -/
def sliceTellsUptoCard : Claim7 := { stood := { row := sliceTellsUptoRow, standIns := [], harness := (true, "8f16a371d70cea2738654a18cbf1b0864ccf210db9b36543be3650501d9e2588"), looks := false }, kinds := [], alts := [], laidByText := true, laidKinds := [.data, .data, .funcs], laidTests := true, laidLooks := .later }
def SliceTellsUptoCardSaid : Prop := Claim7.holds Tryd.pinned (.plain (OpenSpec.upto sliceTellsSpec)) sliceTellsUptoCard
end Rows
end Go.Proofs.YtcddlnmcjmhbcaaDoor
