/-
  Walks: come and Eval of expressions, and the document's. The table of operators is known: what its cells hold is a premise (OpsAt).
-/
import Derived.Test.YtonckpblbdopmaaDoorExW5
import Derived.Deep.QuietTactic
import Derived.BigQuiet
namespace Go.Proofs.YtonckpblbdopmaaDoor
set_option linter.unusedVariables false
open Go Go.RowKit

/-- The table's cells hold the five functions. -/
def OpsAt (w : World) : Prop :=
  w.cell? ⟨0, 4, none⟩ = some (.func (.func 61) #[] #[]) ∧ w.cell? ⟨0, 5, none⟩ = some (.func (.func 62) #[] #[]) ∧
  w.cell? ⟨0, 6, none⟩ = some (.func (.func 63) #[] #[]) ∧ w.cell? ⟨0, 7, none⟩ = some (.func (.func 64) #[] #[]) ∧
  w.cell? ⟨0, 8, none⟩ = some (.func (.func 66) #[] #[])
theorem OpsAt.below {w w' : World} (hb : Below w.heap.size w w') (h : OpsAt w) : OpsAt w' :=
  ⟨later hb h.1, later hb h.2.1, later hb h.2.2.1, later hb h.2.2.2.1, later hb h.2.2.2.2⟩

set_option maxRecDepth 100000 in
set_option maxHeartbeats 4000000 in
theorem op1_any (x y : Int) (w : World) : Calls Tryd.prog 61 #[.int .i64 x, .int .i64 y] w fun e' w' => e' = .returned (.int .i64 (opS 4 x y)) ∧ w' = w := by
  go_enter Tryd.func61, Tryd.ntmps61
  go_wp2_with fail
  go_ret
  exact ⟨rfl, rfl⟩
set_option maxRecDepth 100000 in
set_option maxHeartbeats 4000000 in
theorem op2_any (x y : Int) (w : World) : Calls Tryd.prog 62 #[.int .i64 x, .int .i64 y] w fun e' w' => e' = .returned (.int .i64 (opS 5 x y)) ∧ w' = w := by
  go_enter Tryd.func62, Tryd.ntmps62
  go_wp2_with fail
  go_ret
  exact ⟨rfl, rfl⟩
set_option maxRecDepth 100000 in
set_option maxHeartbeats 4000000 in
theorem op3_any (x y : Int) (w : World) : Calls Tryd.prog 63 #[.int .i64 x, .int .i64 y] w fun e' w' => e' = .returned (.int .i64 (opS 6 x y)) ∧ w' = w := by
  go_enter Tryd.func63, Tryd.ntmps63
  go_wp2_with fail
  go_ret
  exact ⟨rfl, rfl⟩
set_option maxRecDepth 100000 in
set_option maxHeartbeats 4000000 in
theorem op4_any (x y : Int) (w : World) : Calls Tryd.prog 64 #[.int .i64 x, .int .i64 y] w fun e' w' => e' = .returned (.int .i64 (opS 7 x y)) ∧ w' = w := by
  by_cases h : x < y
  all_goals
    go_enter Tryd.func64, Tryd.ntmps64
    go_wp2
    go_ret
    exact ⟨ret_int (by simp [opS]; omega), rfl⟩
set_option maxRecDepth 100000 in
set_option maxHeartbeats 4000000 in
theorem op5_any (x y : Int) (w : World) : Calls Tryd.prog 66 #[.int .i64 x, .int .i64 y] w fun e' w' => e' = .returned (.int .i64 (opS 8 x y)) ∧ w' = w := by
  by_cases h : x = y
  · subst h
    go_enter Tryd.func66, Tryd.ntmps66
    go_wp2
    go_ret
    exact ⟨ret_int (by simp [opS]), rfl⟩
  · have h2 : (x == y) = false := by rw [beq_eq_false_iff_ne]; exact h
    have HS := hid (show opS 8 x y = 0 by simp [opS, h])
    clear h
    go_enter Tryd.func66, Tryd.ntmps66
    go_wp2
    go_ret
    exact ⟨ret_int HS.out.symm, rfl⟩
end Go.Proofs.YtonckpblbdopmaaDoor
