/-
  DERIVED. GIVEN WITH THE SEED: THE CARDS: each row of YtnmbacleaijhmaaDoorRows.lean that lists a variable, with what it lists TIED to the program's text (the seventh form; the later family's looks); each row that meets fmt, with fmt's text TOLD by the authors' own Lean function (tested against real Go, not proved from fmt's source: count such statements apart). THE CARD IS WHAT COUNTS. Prove the row's statement (the work); the ties are given (YtnmbacleaijhmaaDoorTie.lean); close each card by the builder's one call (the guide's Derived/Test/ToyasCard.lean, 'card_holds'). Laid BY PROGRAM, IN A SANDBOX (cutbox-door.mjs). By AI agents, Wed Nov 11 2026. No macro, syntax, notation, axiom, sorry.
-/
import Derived.Test.YtnmbacleaijhmaaDoorRows
import GoSem.ClaimSeven
namespace Go.Proofs.YtnmbacleaijhmaaDoor
namespace Rows

/-- THE TIED CARD OF 'seesawlaw29.SliceNames'. -/
def sliceNamesCard : Claim7 := { stood := { row := sliceNamesRow, standIns := [], harness := (true, "b863ba6c2557f2b7c2c5652c98c6dcf3f8190b9e696722b8ae1a9f9a4c16f1c6"), looks := false }, kinds := [], alts := [], laidByText := true, laidKinds := [.data, .funcs], laidTests := true, laidLooks := .later }
def SliceNamesCardSaid : Prop := Claim7.holds Tryd.pinned (.plain (OpenSpec.ofChange sliceNamesSpec)) sliceNamesCard

/-- THE TIED CARD OF 'seesawlaw29.SliceShape'. -/
def sliceShapeCard : Claim7 := { stood := { row := sliceShapeRow, standIns := [], harness := (true, "b863ba6c2557f2b7c2c5652c98c6dcf3f8190b9e696722b8ae1a9f9a4c16f1c6"), looks := false }, kinds := [], alts := [], laidByText := true, laidKinds := [.data, .funcs], laidTests := true, laidLooks := .later }
def SliceShapeCardSaid : Prop := Claim7.holds Tryd.pinned (.plain (OpenSpec.ofChange sliceShapeSpec)) sliceShapeCard

/-- THE TIED CARD OF 'seesawlaw29.SliceTwice'. -/
def sliceTwiceCard : Claim7 := { stood := { row := sliceTwiceRow, standIns := [], harness := (true, "b863ba6c2557f2b7c2c5652c98c6dcf3f8190b9e696722b8ae1a9f9a4c16f1c6"), looks := false }, kinds := [], alts := [], laidByText := true, laidKinds := [.data, .funcs], laidTests := true, laidLooks := .later }
def SliceTwiceCardSaid : Prop := Claim7.holds Tryd.pinned (.plain (OpenSpec.ofChange sliceTwiceSpec)) sliceTwiceCard

/-- THE TIED CARD OF 'seesawlaw29.SliceCommitted'. -/
def sliceCommittedCard : Claim7 := { stood := { row := sliceCommittedRow, standIns := [], harness := (true, "b863ba6c2557f2b7c2c5652c98c6dcf3f8190b9e696722b8ae1a9f9a4c16f1c6"), looks := false }, kinds := [], alts := [], laidByText := true, laidKinds := [.data, .funcs], laidTests := true, laidLooks := .later }
def SliceCommittedCardSaid : Prop := Claim7.holds Tryd.pinned (.plain (OpenSpec.ofChange sliceCommittedSpec)) sliceCommittedCard

/-- THE SECOND FORM's CARD OF 'seesawlaw29.SliceNames'. -/
def sliceNamesUptoCard : Claim7 := { stood := { row := sliceNamesUptoRow, standIns := [], harness := (true, "b863ba6c2557f2b7c2c5652c98c6dcf3f8190b9e696722b8ae1a9f9a4c16f1c6"), looks := false }, kinds := [], alts := [], laidByText := true, laidKinds := [.data, .funcs], laidTests := true, laidLooks := .later }
def SliceNamesUptoCardSaid : Prop := Claim7.holds Tryd.pinned (.plain (OpenSpec.upto sliceNamesSpec)) sliceNamesUptoCard

/-- THE SECOND FORM's CARD OF 'seesawlaw29.SliceShape'. -/
def sliceShapeUptoCard : Claim7 := { stood := { row := sliceShapeUptoRow, standIns := [], harness := (true, "b863ba6c2557f2b7c2c5652c98c6dcf3f8190b9e696722b8ae1a9f9a4c16f1c6"), looks := false }, kinds := [], alts := [], laidByText := true, laidKinds := [.data, .funcs], laidTests := true, laidLooks := .later }
def SliceShapeUptoCardSaid : Prop := Claim7.holds Tryd.pinned (.plain (OpenSpec.upto sliceShapeSpec)) sliceShapeUptoCard

/-- THE SECOND FORM's CARD OF 'seesawlaw29.SliceTwice'. -/
def sliceTwiceUptoCard : Claim7 := { stood := { row := sliceTwiceUptoRow, standIns := [], harness := (true, "b863ba6c2557f2b7c2c5652c98c6dcf3f8190b9e696722b8ae1a9f9a4c16f1c6"), looks := false }, kinds := [], alts := [], laidByText := true, laidKinds := [.data, .funcs], laidTests := true, laidLooks := .later }
def SliceTwiceUptoCardSaid : Prop := Claim7.holds Tryd.pinned (.plain (OpenSpec.upto sliceTwiceSpec)) sliceTwiceUptoCard

/-- THE SECOND FORM's CARD OF 'seesawlaw29.SliceCommitted'. -/
def sliceCommittedUptoCard : Claim7 := { stood := { row := sliceCommittedUptoRow, standIns := [], harness := (true, "b863ba6c2557f2b7c2c5652c98c6dcf3f8190b9e696722b8ae1a9f9a4c16f1c6"), looks := false }, kinds := [], alts := [], laidByText := true, laidKinds := [.data, .funcs], laidTests := true, laidLooks := .later }
def SliceCommittedUptoCardSaid : Prop := Claim7.holds Tryd.pinned (.plain (OpenSpec.upto sliceCommittedSpec)) sliceCommittedUptoCard
end Rows
end Go.Proofs.YtnmbacleaijhmaaDoor
