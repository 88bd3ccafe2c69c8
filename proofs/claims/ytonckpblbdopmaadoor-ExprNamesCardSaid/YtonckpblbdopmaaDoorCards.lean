/-
  DERIVED. GIVEN WITH THE SEED: THE CARDS: each row of YtonckpblbdopmaaDoorRows.lean that lists a variable, with what it lists TIED to the program's text (the seventh form; the later family's looks); each row that meets fmt, with fmt's text TOLD by the authors' own Lean function (tested against real Go, not proved from fmt's source: count such statements apart). THE CARD IS WHAT COUNTS. Prove the row's statement (the work); the ties are given (YtonckpblbdopmaaDoorTie.lean); close each card by the builder's one call (the guide's Derived/Test/ToyasCard.lean, 'card_holds'). Laid BY PROGRAM, IN A SANDBOX (cutbox-door.mjs). By AI agents, Wed Nov 11 2026. No macro, syntax, notation, axiom, sorry.
-/
import Derived.Test.YtonckpblbdopmaaDoorRows
import GoSem.ClaimSeven
namespace Go.Proofs.YtonckpblbdopmaaDoor
namespace Rows

/-- THE TIED CARD OF 'seesawlaw04.ExprVariable'. -/
def exprVariableCard : Claim7 := { stood := { row := exprVariableRow, standIns := [], harness := (true, "24be0fc3a6b8abd05a5d51304c04cc908bf5b8c072d67d3166a45c94156eae54"), looks := false }, kinds := [], alts := [], laidByText := true, laidKinds := [.funcs], laidTests := true, laidLooks := .later }
def ExprVariableCardSaid : Prop := Claim7.holds Tryd.pinned (.plain (OpenSpec.ofChange exprVariableSpec)) exprVariableCard

/-- THE TIED CARD OF 'seesawlaw04.ExprNames'. -/
def exprNamesCard : Claim7 := { stood := { row := exprNamesRow, standIns := [], harness := (true, "24be0fc3a6b8abd05a5d51304c04cc908bf5b8c072d67d3166a45c94156eae54"), looks := false }, kinds := [], alts := [], laidByText := true, laidKinds := [.funcs], laidTests := true, laidLooks := .later }
def ExprNamesCardSaid : Prop := Claim7.holds Tryd.pinned (.plain (OpenSpec.ofChange exprNamesSpec)) exprNamesCard

/-- THE TIED CARD OF 'seesawlaw04.ExprRound'. -/
def exprRoundCard : Claim7 := { stood := { row := exprRoundRow, standIns := [], harness := (true, "24be0fc3a6b8abd05a5d51304c04cc908bf5b8c072d67d3166a45c94156eae54"), looks := false }, kinds := [], alts := [], laidByText := true, laidKinds := [.funcs], laidTests := true, laidLooks := .later }
def ExprRoundCardSaid : Prop := Claim7.holds Tryd.pinned (.plain (OpenSpec.ofChange exprRoundSpec)) exprRoundCard

/-- THE TIED CARD OF 'seesawlaw04.ExprMeans'. -/
def exprMeansCard : Claim7 := { stood := { row := exprMeansRow, standIns := [], harness := (true, "24be0fc3a6b8abd05a5d51304c04cc908bf5b8c072d67d3166a45c94156eae54"), looks := false }, kinds := [], alts := [], laidByText := true, laidKinds := [.funcs], laidTests := true, laidLooks := .later }
def ExprMeansCardSaid : Prop := Claim7.holds Tryd.pinned (.plain (OpenSpec.ofChange exprMeansSpec)) exprMeansCard

/-- THE TIED CARD OF 'seesawlaw04.ExprParts'. -/
def exprPartsCard : Claim7 := { stood := { row := exprPartsRow, standIns := [], harness := (true, "24be0fc3a6b8abd05a5d51304c04cc908bf5b8c072d67d3166a45c94156eae54"), looks := false }, kinds := [], alts := [], laidByText := true, laidKinds := [.funcs], laidTests := true, laidLooks := .later }
def ExprPartsCardSaid : Prop := Claim7.holds Tryd.pinned (.plain (OpenSpec.ofChange exprPartsSpec)) exprPartsCard

/-- THE TIED CARD OF 'seesawlaw04.ExprTold'. -/
def exprToldCard : Claim7 := { stood := { row := exprToldRow, standIns := [], harness := (true, "24be0fc3a6b8abd05a5d51304c04cc908bf5b8c072d67d3166a45c94156eae54"), looks := false }, kinds := [], alts := [], laidByText := true, laidKinds := [.funcs], laidTests := true, laidLooks := .later }
def ExprToldCardSaid : Prop := Claim7.holds Tryd.pinned (.plain (OpenSpec.ofChange exprToldSpec)) exprToldCard

/-- THE TIED CARD OF 'seesawlaw04.ExprTells'. -/
def exprTellsCard : Claim7 := { stood := { row := exprTellsRow, standIns := [], harness := (true, "24be0fc3a6b8abd05a5d51304c04cc908bf5b8c072d67d3166a45c94156eae54"), looks := false }, kinds := [], alts := [], laidByText := true, laidKinds := [.funcs], laidTests := true, laidLooks := .later }
def ExprTellsCardSaid : Prop := Claim7.holds Tryd.pinned (.plain (OpenSpec.ofChange exprTellsSpec)) exprTellsCard

/-- THE SECOND FORM's CARD OF 'seesawlaw04.ExprVariable'. -/
def exprVariableUptoCard : Claim7 := { stood := { row := exprVariableUptoRow, standIns := [], harness := (true, "24be0fc3a6b8abd05a5d51304c04cc908bf5b8c072d67d3166a45c94156eae54"), looks := false }, kinds := [], alts := [], laidByText := true, laidKinds := [.funcs], laidTests := true, laidLooks := .later }
def ExprVariableUptoCardSaid : Prop := Claim7.holds Tryd.pinned (.plain (OpenSpec.upto exprVariableSpec)) exprVariableUptoCard

/-- THE SECOND FORM's CARD OF 'seesawlaw04.ExprNames'. -/
def exprNamesUptoCard : Claim7 := { stood := { row := exprNamesUptoRow, standIns := [], harness := (true, "24be0fc3a6b8abd05a5d51304c04cc908bf5b8c072d67d3166a45c94156eae54"), looks := false }, kinds := [], alts := [], laidByText := true, laidKinds := [.funcs], laidTests := true, laidLooks := .later }
def ExprNamesUptoCardSaid : Prop := Claim7.holds Tryd.pinned (.plain (OpenSpec.upto exprNamesSpec)) exprNamesUptoCard

/-- THE SECOND FORM's CARD OF 'seesawlaw04.ExprRound'. -/
def exprRoundUptoCard : Claim7 := { stood := { row := exprRoundUptoRow, standIns := [], harness := (true, "24be0fc3a6b8abd05a5d51304c04cc908bf5b8c072d67d3166a45c94156eae54"), looks := false }, kinds := [], alts := [], laidByText := true, laidKinds := [.funcs], laidTests := true, laidLooks := .later }
def ExprRoundUptoCardSaid : Prop := Claim7.holds Tryd.pinned (.plain (OpenSpec.upto exprRoundSpec)) exprRoundUptoCard

/-- THE SECOND FORM's CARD OF 'seesawlaw04.ExprMeans'. -/
def exprMeansUptoCard : Claim7 := { stood := { row := exprMeansUptoRow, standIns := [], harness := (true, "24be0fc3a6b8abd05a5d51304c04cc908bf5b8c072d67d3166a45c94156eae54"), looks := false }, kinds := [], alts := [], laidByText := true, laidKinds := [.funcs], laidTests := true, laidLooks := .later }
def ExprMeansUptoCardSaid : Prop := Claim7.holds Tryd.pinned (.plain (OpenSpec.upto exprMeansSpec)) exprMeansUptoCard

/-- THE SECOND FORM's CARD OF 'seesawlaw04.ExprParts'. -/
def exprPartsUptoCard : Claim7 := { stood := { row := exprPartsUptoRow, standIns := [], harness := (true, "24be0fc3a6b8abd05a5d51304c04cc908bf5b8c072d67d3166a45c94156eae54"), looks := false }, kinds := [], alts := [], laidByText := true, laidKinds := [.funcs], laidTests := true, laidLooks := .later }
def ExprPartsUptoCardSaid : Prop := Claim7.holds Tryd.pinned (.plain (OpenSpec.upto exprPartsSpec)) exprPartsUptoCard

/-- THE SECOND FORM's CARD OF 'seesawlaw04.ExprTold'. -/
def exprToldUptoCard : Claim7 := { stood := { row := exprToldUptoRow, standIns := [], harness := (true, "24be0fc3a6b8abd05a5d51304c04cc908bf5b8c072d67d3166a45c94156eae54"), looks := false }, kinds := [], alts := [], laidByText := true, laidKinds := [.funcs], laidTests := true, laidLooks := .later }
def ExprToldUptoCardSaid : Prop := Claim7.holds Tryd.pinned (.plain (OpenSpec.upto exprToldSpec)) exprToldUptoCard

/-- THE SECOND FORM's CARD OF 'seesawlaw04.ExprTells'. -/
def exprTellsUptoCard : Claim7 := { stood := { row := exprTellsUptoRow, standIns := [], harness := (true, "24be0fc3a6b8abd05a5d51304c04cc908bf5b8c072d67d3166a45c94156eae54"), looks := false }, kinds := [], alts := [], laidByText := true, laidKinds := [.funcs], laidTests := true, laidLooks := .later }
def ExprTellsUptoCardSaid : Prop := Claim7.holds Tryd.pinned (.plain (OpenSpec.upto exprTellsSpec)) exprTellsUptoCard
end Rows
end Go.Proofs.YtonckpblbdopmaaDoor
