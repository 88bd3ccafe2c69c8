/-
  Walks: code.none, code.nodes, code.of.
-/
import Derived.Test.YtoeegiaajngpeaaCoW2
import Derived.Test.YtoeegiaajngpeaaSuG2
namespace Go.Proofs.Ytoeegiaajngpeaa
set_option linter.unusedVariables false
set_option linter.unusedSimpArgs false
set_option linter.unusedVariables false
open Go Go.RowKit
def noneS (e : Ex) : Bool := (e.op == 0 && e.n == 0) && e.args.isEmpty
def nodesS (e : Ex) : Nat := if e.op = 0 then 0 else sizeE e
set_option maxRecDepth 100000 in
set_option maxHeartbeats 4000000 in
theorem none_any (e : Ex) (w : World) (v0 v1 v2 : Value) (h : RdEx w e v0 v1 v2) :
    Calls Try.prog 59 #[.agg #[v0, v1, v2]] w fun e' w' => e' = .returned (.bool (noneS e)) ∧ Below w.heap.size w w' := by
  obtain ⟨a, cap, rfl, rfl, rfl⟩ := h.shape
  have HN : Hid (noneS e = ((e.op == 0 && e.n == 0) && decide (e.args.length = 0))) := hid (by
    unfold noneS
    congr 1
    cases e.args <;> simp)
  generalize noneS e = q at *
  generalize e.op = op at *
  generalize e.n = n at *
  generalize e.args.length = m at *
  by_cases h1 : op = 0
  · subst h1
    by_cases h2 : n = 0
    · subst h2
      by_cases h3 : m = 0
      · subst h3
        obtain rfl : q = true := HN.out
        go_enter Try.func59, Try.ntmps59
        go_wp2_with fail
        go_ret
        exact ⟨rfl, ext_alloc (ext_refl _) _⟩
      · have g3 : ((m : Int) == 0) = false := by rw [beq_eq_false_iff_ne]; omega
        have hq : q = false := by rw [HN.out, decide_eq_false h3]; rfl
        subst hq
        go_enter Try.func59, Try.ntmps59
        go_wp2_with fail
        go_ret
        exact ⟨rfl, ext_alloc (ext_refl _) _⟩
    · have g2 : (n == 0) = false := beq_eq_false_iff_ne.2 h2
      have hq : q = false := by rw [HN.out, g2]; rfl
      subst hq
      go_enter Try.func59, Try.ntmps59
      go_wp2_with fail
      go_ret
      exact ⟨rfl, ext_alloc (ext_refl _) _⟩
  · have g1 : (op == 0) = false := beq_eq_false_iff_ne.2 h1
    have hq : q = false := by rw [HN.out, g1]; rfl
    subst hq
    go_enter Try.func59, Try.ntmps59
    go_wp2_with fail
    go_ret
    exact ⟨rfl, ext_alloc (ext_refl _) _⟩
set_option maxRecDepth 100000 in
set_option maxHeartbeats 4000000 in
theorem nodes_any (e : Ex) (w : World) (v0 v1 v2 : Value) (h : RdEx w e v0 v1 v2) (hs : sizeE e ≤ 1000000) :
    Calls Try.prog 53 #[.agg #[v0, v1, v2]] w fun e' w' => e' = .returned (.int .i64 (nodesS e : Nat)) ∧ Below w.heap.size w w' := by
  obtain ⟨a, cap, rfl, rfl, rfl⟩ := h.shape
  have HC := hid (fun (w : World) (h : RdEx w e (.int .u8 e.op) (.int .i64 e.n) (.slice a e.args.length cap)) => count_any (sizeE e) e w _ _ _ (Nat.le_refl _) h hs)
  have HR := hid (h.below (ext_alloc (ext_refl w) (.cells #[.int .u8 e.op, .int .i64 e.n, .slice a e.args.length cap] 40)))
  have HN : Hid (nodesS e = if e.op = 0 then 0 else sizeE e) := hid rfl
  generalize nodesS e = q at *
  generalize sizeE e = z at *
  by_cases h1 : e.op = 0
  · have hq : q = 0 := by rw [HN.out, if_pos h1]
    subst hq
    rw [h1] at *
    clear HC HR HN h
    go_enter Try.func53, Try.ntmps53
    go_wp2_with fail
    go_ret
    exact ⟨rfl, ext_alloc (ext_refl _) _⟩
  · have g1 : (e.op == 0) = false := beq_eq_false_iff_ne.2 h1
    have hq : q = z := by rw [HN.out, if_neg h1]
    subst hq
    clear h h1
    go_enter Try.func53, Try.ntmps53
    go_wp2_with fail
    refine (HC.out _ HR.out).mono ?_
    rintro e' w1 ⟨rfl, hb1⟩
    go_wp2_with fail
    go_ret
    exact ⟨rfl, ext_trans (ext_alloc (ext_refl _) _) hb1⟩
end Go.Proofs.Ytoeegiaajngpeaa
