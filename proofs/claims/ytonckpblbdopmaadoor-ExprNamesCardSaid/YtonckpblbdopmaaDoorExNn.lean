/-
  ExprNames comes to true: reckoned over the operators' table.
-/
import Derived.Test.YtonckpblbdopmaaDoorExNt
import Derived.Test.YtonckpblbdopmaaDoorExNa
namespace Go.Proofs.YtonckpblbdopmaaDoor.Rk
set_option linter.unusedVariables false
open Go Go.RowKit
set_option maxRecDepth 100000
set_option maxHeartbeats 4000000

theorem exprNames_true : comesTrue noO ft 100000 4 [] (stT [(0, opsT)]) = true := by decide +kernel
theorem exprNames_any (w : World) (hL : laidMetH Tryd.prog Rows.exprVariableRow.laid w) : Calls Tryd.prog 4 #[] w fun e w' => e = .returned (.bool true) ∧ Below w.heap.size w w' :=
  reckon_true ftok noO_ok exprNames_true rfl (goodT (by decide +kernel) fun n cs h => by
    rcases List.mem_singleton.1 h with h
    cases h
    exact opsT_in hL) freshT (LR.nil _)
end Go.Proofs.YtonckpblbdopmaaDoor.Rk
