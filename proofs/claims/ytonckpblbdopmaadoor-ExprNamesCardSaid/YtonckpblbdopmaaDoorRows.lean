/-
  NARROWER THAN 'FOR EVERY INPUT', by the rows' own cells (each row's printed sentence says how): ExprVariable: laid · ExprNames: laid · ExprRound: laid · ExprMeans: laid · ExprParts: loops, laid · ExprTold: loops, laid · ExprTells: loops, laid.
  DERIVED. THE GIVEN ROWS OF THIS SEAT. 7 by the template 'for every input the law returns true; each argument reads behind the call as it read before'; 0 by the template 'total and deterministic' (their statements: YtonckpblbdopmaaDoorTotals.lean).
  GIVEN WITH THE SEED: the statements are not yours to turn. If you find one false, say at which input.
  Laid BY PROGRAM, IN A SANDBOX (cutbox-rows.mjs): the forced cells as the released guide's own fill.sh prints them over the translation f1167fef377ca63c… (all of the seat's roots in one cut). By AI agents, Wed Nov 11 2026. No macro, syntax, notation, axiom, sorry.
-/
import Derived.Test.YtonckpblbdopmaaDoorChecked
import GoSem.Claim
import GoSem.ClaimJoined
import GoSem.ClaimMapViews
import Derived.JoinedTies
import Derived.KernelRfl
namespace Go.Proofs.YtonckpblbdopmaaDoor
/- THE CELL 'sum', in the pinned program and in every row, IS THE sha256 OF THE DUMP (.gsa) THAT YtonckpblbdopmaaDoorProg.lean LOADS. Nothing in Lean hashes anything: it is a label: what it is worth is what the hold of that sum in a sandbox is worth. -/
noncomputable def Tryd.pinned : Pinned := { name := "ytonckpblbdopmaadoor", sum := "f1167fef377ca63c9497e06cf48c981f668a5014c11165074d4cfc1ccb86330a", checked := Tryd.checked }
namespace Rows
def none {H : Type} : Left H := { results := [], args := [] }

/- WHAT THE LISTED PACKAGE-LEVEL VARIABLES READ AS WHEN THE CALL BEGINS. Each datum BY PROGRAM (the guide's laid-datum.mjs) off the statement by which the dump's own 'gosem.cut.vars' lays the variable. In a bare row this is a premise. The card (YtonckpblbdopmaaDoorCards.lean) ties it to the program's text. -/
def laid_seesaw_expr_operators {H : Type} : DataW H := .iface "func table" (.agg [.nil, .nil, .nil, .nil, .iface "func" (.lit (.string [115, 101, 101, 115, 97, 119, 47, 101, 120, 112, 114, 46, 111, 112, 101, 114, 97, 116, 111, 114, 115, 36, 49])), .iface "func" (.lit (.string [115, 101, 101, 115, 97, 119, 47, 101, 120, 112, 114, 46, 111, 112, 101, 114, 97, 116, 111, 114, 115, 36, 50])), .iface "func" (.lit (.string [115, 101, 101, 115, 97, 119, 47, 101, 120, 112, 114, 46, 111, 112, 101, 114, 97, 116, 111, 114, 115, 36, 51])), .iface "func" (.lit (.string [115, 101, 101, 115, 97, 119, 47, 101, 120, 112, 114, 46, 111, 112, 101, 114, 97, 116, 111, 114, 115, 36, 52])), .iface "func" (.lit (.string [115, 101, 101, 115, 97, 119, 47, 101, 120, 112, 114, 46, 111, 112, 101, 114, 97, 116, 111, 114, 115, 36, 53]))])

/-- 'seesawlaw04.ExprVariable': WHATEVER THE INPUT: true; the input reads as it did. -/
def exprVariableSpec : ChangeSpec := { name := "exprVariable", fn := fun _ => fun
  | [d1, d2] => { results := [.lit (.bool true)], args := [d1, d2] }
  | _ => none }
def exprVariableRow : OpenClaim := { program := "ytonckpblbdopmaadoor", sum := "f1167fef377ca63c9497e06cf48c981f668a5014c11165074d4cfc1ccb86330a", func := "seesaw/seesawlaw04.ExprVariable", spec := "exprVariable", unfollowed := true, recurses := true, named := ["seesaw/expr.operators"], apart := false, laid := [("seesaw/expr.operators", laid_seesaw_expr_operators)] }
def ExprVariableSaid : Prop := exprVariableRow.holds Tryd.pinned (OpenSpec.ofChange exprVariableSpec)

/-- ITS FALSE NEIGHBOUR: 'it returns false'. Refute it at one input. -/
def exprVariableWrong : ChangeSpec := { name := "exprVariable", fn := fun _ => fun
  | [d1, d2] => { results := [.lit (.bool false)], args := [d1, d2] }
  | _ => none }
def ExprVariableWrongFalsely : Prop := exprVariableRow.holds Tryd.pinned (OpenSpec.ofChange exprVariableWrong)

/-- 'seesawlaw04.ExprNames': WHATEVER THE INPUT: true; the input reads as it did. -/
def exprNamesSpec : ChangeSpec := { name := "exprNames", fn := fun _ => fun
  | [] => { results := [.lit (.bool true)], args := [] }
  | _ => none }
def exprNamesRow : OpenClaim := { program := "ytonckpblbdopmaadoor", sum := "f1167fef377ca63c9497e06cf48c981f668a5014c11165074d4cfc1ccb86330a", func := "seesaw/seesawlaw04.ExprNames", spec := "exprNames", unfollowed := true, recurses := true, named := ["seesaw/expr.operators"], apart := false, laid := [("seesaw/expr.operators", laid_seesaw_expr_operators)] }
def ExprNamesSaid : Prop := exprNamesRow.holds Tryd.pinned (OpenSpec.ofChange exprNamesSpec)

/-- ITS FALSE NEIGHBOUR: 'it returns false'. Refute it at one input. -/
def exprNamesWrong : ChangeSpec := { name := "exprNames", fn := fun _ => fun
  | [] => { results := [.lit (.bool false)], args := [] }
  | _ => none }
def ExprNamesWrongFalsely : Prop := exprNamesRow.holds Tryd.pinned (OpenSpec.ofChange exprNamesWrong)

/-- 'seesawlaw04.ExprRound': WHATEVER THE INPUT: true; the input reads as it did. -/
def exprRoundSpec : ChangeSpec := { name := "exprRound", fn := fun _ => fun
  | [d1, d2, d3] => { results := [.lit (.bool true)], args := [d1, d2, d3] }
  | _ => none }
def exprRoundRow : OpenClaim := { program := "ytonckpblbdopmaadoor", sum := "f1167fef377ca63c9497e06cf48c981f668a5014c11165074d4cfc1ccb86330a", func := "seesaw/seesawlaw04.ExprRound", spec := "exprRound", unfollowed := true, recurses := true, named := ["seesaw/expr.operators"], apart := false, laid := [("seesaw/expr.operators", laid_seesaw_expr_operators)] }
def ExprRoundSaid : Prop := exprRoundRow.holds Tryd.pinned (OpenSpec.ofChange exprRoundSpec)

/-- ITS FALSE NEIGHBOUR: 'it returns false'. Refute it at one input. -/
def exprRoundWrong : ChangeSpec := { name := "exprRound", fn := fun _ => fun
  | [d1, d2, d3] => { results := [.lit (.bool false)], args := [d1, d2, d3] }
  | _ => none }
def ExprRoundWrongFalsely : Prop := exprRoundRow.holds Tryd.pinned (OpenSpec.ofChange exprRoundWrong)

/-- 'seesawlaw04.ExprMeans': WHATEVER THE INPUT: true; the input reads as it did. -/
def exprMeansSpec : ChangeSpec := { name := "exprMeans", fn := fun _ => fun
  | [d1, d2] => { results := [.lit (.bool true)], args := [d1, d2] }
  | _ => none }
def exprMeansRow : OpenClaim := { program := "ytonckpblbdopmaadoor", sum := "f1167fef377ca63c9497e06cf48c981f668a5014c11165074d4cfc1ccb86330a", func := "seesaw/seesawlaw04.ExprMeans", spec := "exprMeans", unfollowed := true, recurses := true, named := ["seesaw/expr.operators"], apart := false, laid := [("seesaw/expr.operators", laid_seesaw_expr_operators)] }
def ExprMeansSaid : Prop := exprMeansRow.holds Tryd.pinned (OpenSpec.ofChange exprMeansSpec)

/-- ITS FALSE NEIGHBOUR: 'it returns false'. Refute it at one input. -/
def exprMeansWrong : ChangeSpec := { name := "exprMeans", fn := fun _ => fun
  | [d1, d2] => { results := [.lit (.bool false)], args := [d1, d2] }
  | _ => none }
def ExprMeansWrongFalsely : Prop := exprMeansRow.holds Tryd.pinned (OpenSpec.ofChange exprMeansWrong)

/-- 'seesawlaw04.ExprParts': WHATEVER THE INPUT: true; the input reads as it did. -/
def exprPartsSpec : ChangeSpec := { name := "exprParts", fn := fun _ => fun
  | [d1, d2, d3] => { results := [.lit (.bool true)], args := [d1, d2, d3] }
  | _ => none }
def exprPartsRow : OpenClaim := { program := "ytonckpblbdopmaadoor", sum := "f1167fef377ca63c9497e06cf48c981f668a5014c11165074d4cfc1ccb86330a", func := "seesaw/seesawlaw04.ExprParts", spec := "exprParts", unfollowed := true, recurses := true, named := ["seesaw/expr.operators"], loops := true, apart := false, laid := [("seesaw/expr.operators", laid_seesaw_expr_operators)] }
def ExprPartsSaid : Prop := exprPartsRow.holds Tryd.pinned (OpenSpec.ofChange exprPartsSpec)

/-- ITS FALSE NEIGHBOUR: 'it returns false'. Refute it at one input. -/
def exprPartsWrong : ChangeSpec := { name := "exprParts", fn := fun _ => fun
  | [d1, d2, d3] => { results := [.lit (.bool false)], args := [d1, d2, d3] }
  | _ => none }
def ExprPartsWrongFalsely : Prop := exprPartsRow.holds Tryd.pinned (OpenSpec.ofChange exprPartsWrong)

/-- 'seesawlaw04.ExprTold': WHATEVER THE INPUT: true; the input reads as it did. -/
def exprToldSpec : ChangeSpec := { name := "exprTold", fn := fun _ => fun
  | [d1, d2, d3] => { results := [.lit (.bool true)], args := [d1, d2, d3] }
  | _ => none }
def exprToldRow : OpenClaim := { program := "ytonckpblbdopmaadoor", sum := "f1167fef377ca63c9497e06cf48c981f668a5014c11165074d4cfc1ccb86330a", func := "seesaw/seesawlaw04.ExprTold", spec := "exprTold", unfollowed := true, recurses := true, named := ["seesaw/expr.operators"], loops := true, apart := false, laid := [("seesaw/expr.operators", laid_seesaw_expr_operators)] }
def ExprToldSaid : Prop := exprToldRow.holds Tryd.pinned (OpenSpec.ofChange exprToldSpec)

/-- ITS FALSE NEIGHBOUR: 'it returns false'. Refute it at one input. -/
def exprToldWrong : ChangeSpec := { name := "exprTold", fn := fun _ => fun
  | [d1, d2, d3] => { results := [.lit (.bool false)], args := [d1, d2, d3] }
  | _ => none }
def ExprToldWrongFalsely : Prop := exprToldRow.holds Tryd.pinned (OpenSpec.ofChange exprToldWrong)

/-- 'seesawlaw04.ExprTells': WHATEVER THE INPUT: true; the input reads as it did. -/
def exprTellsSpec : ChangeSpec := { name := "exprTells", fn := fun _ => fun
  | [d1, d2, d3, d4, d5] => { results := [.lit (.bool true)], args := [d1, d2, d3, d4, d5] }
  | _ => none }
def exprTellsRow : OpenClaim := { program := "ytonckpblbdopmaadoor", sum := "f1167fef377ca63c9497e06cf48c981f668a5014c11165074d4cfc1ccb86330a", func := "seesaw/seesawlaw04.ExprTells", spec := "exprTells", unfollowed := true, recurses := true, named := ["seesaw/expr.operators"], loops := true, apart := false, laid := [("seesaw/expr.operators", laid_seesaw_expr_operators)] }
def ExprTellsSaid : Prop := exprTellsRow.holds Tryd.pinned (OpenSpec.ofChange exprTellsSpec)

/-- ITS FALSE NEIGHBOUR: 'it returns false'. Refute it at one input. -/
def exprTellsWrong : ChangeSpec := { name := "exprTells", fn := fun _ => fun
  | [d1, d2, d3, d4, d5] => { results := [.lit (.bool false)], args := [d1, d2, d3, d4, d5] }
  | _ => none }
def ExprTellsWrongFalsely : Prop := exprTellsRow.holds Tryd.pinned (OpenSpec.ofChange exprTellsWrong)

/- THE SECOND FORM. 'bulk': how many values and letters a reading holds, each counted each time it is reached (what is shared counts as often as it is met; a slice's spare places count too). A statement '..UptoSaid' is the law's where the arguments, and the package variables that the reading takes, are together of bulk at most 1048576: NARROWER than '..Said'. Prove '..Said' where nothing that the law and all that it calls make is longer than what came in: it says more and counts as full. Else prove '..UptoSaid'. A law counts once. -/
mutual
def uptoBulk {H : Type} : DataW H → Nat
  | .lit (.string bytes) => bytes.length + 1
  | .lit _ => 1
  | .nil => 1
  | .ptr d => uptoBulk d + 1
  | .slice elems spare => uptoBulkAll elems + uptoBulkAll spare + 1
  | .agg parts => uptoBulkAll parts + 1
  | .iface _ d => uptoBulk d + 1
  | .map entries => uptoBulkEntries entries + 1
  | .held _ => 1
def uptoBulkAll {H : Type} : List (DataW H) → Nat
  | [] => 0
  | d :: r => uptoBulk d + uptoBulkAll r
def uptoBulkEntries {H : Type} : List (Lit × DataW H) → Nat
  | [] => 0
  | x :: r => uptoBulkEntry x + uptoBulkEntries r
def uptoBulkEntry {H : Type} : Lit × DataW H → Nat
  | (.string bytes, d) => bytes.length + uptoBulk d + 1
  | (_, d) => uptoBulk d + 1
 end
def uptoSmall : (H : Type) → List (DataW H) → Bool := fun _ ds => decide (uptoBulkAll ds ≤ 1048576)
def OpenSpec.upto (s : _root_.Go.ChangeSpec) : _root_.Go.OpenSpec := { _root_.Go.OpenSpec.ofChange s with cond := some uptoSmall }

/-- 'seesawlaw04.ExprVariable', WHERE WHAT IT READS IS OF BULK AT MOST 1048576: true; the input reads as it did. -/
def exprVariableUptoRow : OpenClaim := { program := "ytonckpblbdopmaadoor", sum := "f1167fef377ca63c9497e06cf48c981f668a5014c11165074d4cfc1ccb86330a", func := "seesaw/seesawlaw04.ExprVariable", spec := "exprVariable", unfollowed := true, recurses := true, named := ["seesaw/expr.operators"], apart := false, laid := [("seesaw/expr.operators", laid_seesaw_expr_operators)], narrowed := true }
def ExprVariableUptoSaid : Prop := exprVariableUptoRow.holds Tryd.pinned (OpenSpec.upto exprVariableSpec)

/-- 'seesawlaw04.ExprNames', WHERE WHAT IT READS IS OF BULK AT MOST 1048576: true; the input reads as it did. -/
def exprNamesUptoRow : OpenClaim := { program := "ytonckpblbdopmaadoor", sum := "f1167fef377ca63c9497e06cf48c981f668a5014c11165074d4cfc1ccb86330a", func := "seesaw/seesawlaw04.ExprNames", spec := "exprNames", unfollowed := true, recurses := true, named := ["seesaw/expr.operators"], apart := false, laid := [("seesaw/expr.operators", laid_seesaw_expr_operators)], narrowed := true }
def ExprNamesUptoSaid : Prop := exprNamesUptoRow.holds Tryd.pinned (OpenSpec.upto exprNamesSpec)

/-- 'seesawlaw04.ExprRound', WHERE WHAT IT READS IS OF BULK AT MOST 1048576: true; the input reads as it did. -/
def exprRoundUptoRow : OpenClaim := { program := "ytonckpblbdopmaadoor", sum := "f1167fef377ca63c9497e06cf48c981f668a5014c11165074d4cfc1ccb86330a", func := "seesaw/seesawlaw04.ExprRound", spec := "exprRound", unfollowed := true, recurses := true, named := ["seesaw/expr.operators"], apart := false, laid := [("seesaw/expr.operators", laid_seesaw_expr_operators)], narrowed := true }
def ExprRoundUptoSaid : Prop := exprRoundUptoRow.holds Tryd.pinned (OpenSpec.upto exprRoundSpec)

/-- 'seesawlaw04.ExprMeans', WHERE WHAT IT READS IS OF BULK AT MOST 1048576: true; the input reads as it did. -/
def exprMeansUptoRow : OpenClaim := { program := "ytonckpblbdopmaadoor", sum := "f1167fef377ca63c9497e06cf48c981f668a5014c11165074d4cfc1ccb86330a", func := "seesaw/seesawlaw04.ExprMeans", spec := "exprMeans", unfollowed := true, recurses := true, named := ["seesaw/expr.operators"], apart := false, laid := [("seesaw/expr.operators", laid_seesaw_expr_operators)], narrowed := true }
def ExprMeansUptoSaid : Prop := exprMeansUptoRow.holds Tryd.pinned (OpenSpec.upto exprMeansSpec)

/-- 'seesawlaw04.ExprParts', WHERE WHAT IT READS IS OF BULK AT MOST 1048576: true; the input reads as it did. -/
def exprPartsUptoRow : OpenClaim := { program := "ytonckpblbdopmaadoor", sum := "f1167fef377ca63c9497e06cf48c981f668a5014c11165074d4cfc1ccb86330a", func := "seesaw/seesawlaw04.ExprParts", spec := "exprParts", unfollowed := true, recurses := true, named := ["seesaw/expr.operators"], loops := true, apart := false, laid := [("seesaw/expr.operators", laid_seesaw_expr_operators)], narrowed := true }
def ExprPartsUptoSaid : Prop := exprPartsUptoRow.holds Tryd.pinned (OpenSpec.upto exprPartsSpec)

/-- 'seesawlaw04.ExprTold', WHERE WHAT IT READS IS OF BULK AT MOST 1048576: true; the input reads as it did. -/
def exprToldUptoRow : OpenClaim := { program := "ytonckpblbdopmaadoor", sum := "f1167fef377ca63c9497e06cf48c981f668a5014c11165074d4cfc1ccb86330a", func := "seesaw/seesawlaw04.ExprTold", spec := "exprTold", unfollowed := true, recurses := true, named := ["seesaw/expr.operators"], loops := true, apart := false, laid := [("seesaw/expr.operators", laid_seesaw_expr_operators)], narrowed := true }
def ExprToldUptoSaid : Prop := exprToldUptoRow.holds Tryd.pinned (OpenSpec.upto exprToldSpec)

/-- 'seesawlaw04.ExprTells', WHERE WHAT IT READS IS OF BULK AT MOST 1048576: true; the input reads as it did. -/
def exprTellsUptoRow : OpenClaim := { program := "ytonckpblbdopmaadoor", sum := "f1167fef377ca63c9497e06cf48c981f668a5014c11165074d4cfc1ccb86330a", func := "seesaw/seesawlaw04.ExprTells", spec := "exprTells", unfollowed := true, recurses := true, named := ["seesaw/expr.operators"], loops := true, apart := false, laid := [("seesaw/expr.operators", laid_seesaw_expr_operators)], narrowed := true }
def ExprTellsUptoSaid : Prop := exprTellsUptoRow.holds Tryd.pinned (OpenSpec.upto exprTellsSpec)

end Rows
end Go.Proofs.YtonckpblbdopmaaDoor
