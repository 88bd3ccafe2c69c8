/-
  Walks: the document's whole, and what stands on both: Whole, May's first half.
-/
import Derived.Test.YtonckpblbdopmaaExW1
namespace Go.Proofs.Ytonckpblbdopmaa
set_option linter.unusedVariables false
open Go Go.RowKit

set_option maxRecDepth 100000 in
set_option maxHeartbeats 4000000 in
theorem rwhole_any (m : Nat) : m ≤ 100 → ∀ (e : Ex) (w : World) (v0 v1 v2 : Value), RdEx w e v0 v1 v2 →
    Calls Try.prog 159 #[.agg #[v0, v1, v2], .int .i64 m] w fun e' w' => e' = .returned (.bool (wholeS m e)) ∧ Below w.heap.size w w' := by
  induction m with
  | zero =>
    intro _ e w v0 v1 v2 h
    obtain ⟨a, cap, rfl, rfl, rfl⟩ := h.shape
    clear h
    go_enter Try.func159, Try.ntmps159
    go_wp2_with fail
    go_ret
    exact ⟨rfl, ext_alloc (ext_refl _) _⟩
  | succ m ih =>
    intro hm e w v0 v1 v2 h
    cases e with | mk op n args =>
    unfold RdEx at h
    obtain ⟨rfl, rfl, ⟨h1, h2⟩, ⟨h3, h4⟩, a, cap, rfl, hl, hx⟩ := h
    have IH := hid (ih (by omega)); clear ih
    have hm0 : (1 : Int) ≤ (m : Int) + 1 := by omega
    by_cases c1 : op = 1
    · subst c1
      clear hx
      go_enter Try.func159, Try.ntmps159
      go_wp2_with fail
      go_ret
      exact ⟨ret_bool (by cases args <;> simp [wholeS] <;> omega), ext_alloc (ext_refl _) _⟩
    by_cases c2 : op = 2
    · subst c2
      clear hx
      go_enter Try.func159, Try.ntmps159
      go_wp2_with fail
      all_goals go_ret
      all_goals refine ⟨ret_bool ?_, ext_alloc (ext_refl _) _⟩
      all_goals (cases args <;> simp_all [wholeS] <;> omega)
    by_cases c3 : op = 3
    · subst c3
      clear hx
      go_enter Try.func159, Try.ntmps159
      go_wp2_with fail
      all_goals go_ret
      all_goals refine ⟨ret_bool ?_, ext_alloc (ext_refl _) _⟩
      all_goals (cases args <;> simp_all [wholeS] <;> omega)
    have e1 : (op == 1) = false := by rw [beq_eq_false_iff_ne]; omega
    have e2 : (op == 2) = false := by rw [beq_eq_false_iff_ne]; omega
    have e3 : (op == 3) = false := by rw [beq_eq_false_iff_ne]; omega
    by_cases hc : args.length = 2 ∧ 4 ≤ op ∧ op ≤ 8 ∧ n = 0
    · obtain ⟨hc1, hc2, hc3, rfl⟩ := hc
      match args, hc1, hx with
      | [x, y], _, hx =>
      obtain ⟨b, off, rfl, hy⟩ := hx (by simp)
      obtain ⟨a0, cap0, hu0, hu1, hu2, hx0⟩ := hy.get' 0 (by simp)
      obtain ⟨a1, cap1, ht0, ht1, ht2, hx1⟩ := hy.get' 1 (by simp)
      simp only [Nat.zero_mul, Nat.add_zero, Nat.one_mul, List.getElem_cons_zero, List.getElem_cons_succ] at hu0 hu1 hu2 hx0 ht0 ht1 ht2 hx1
      have hlt := lt_of_cell hu0
      have HX := hid hx0
      have HY := hid hx1
      rw [wholeS_two hc2 hc3]
      clear hx0 hx1 hx hy e1 e2 e3 c1 c2 c3
      rcases (by omega : op = 4 ∨ op = 5 ∨ op = 6 ∨ op = 7 ∨ op = 8) with rfl | rfl | rfl | rfl | rfl
      all_goals
       go_enter Try.func159, Try.ntmps159
       go_wp2_with fail
       refine (IH.out x _ _ _ _ (RdEx.below ?_ x HX.out)).mono ?_
       · exact ext_alloc (ext_refl _) _
       rintro e w1 ⟨rfl, hb1⟩
       have hc1 := bcell hb1
       cases hwx : wholeS m x
       · have HWX := hid hwx; clear hwx
         go_wp2_with fail
         go_ret
         exact ⟨ret_bool (by rw [HWX.out]; simp), ext_trans (ext_alloc (ext_refl _) _) hb1⟩
       · have HWX := hid hwx; clear hwx
         go_wp2_with fail
         refine (IH.out y _ _ _ _ (RdEx.below ?_ y HY.out)).mono ?_
         · exact ext_trans (ext_alloc (ext_refl _) _) hb1
         rintro e w2 ⟨rfl, hb2⟩
         go_wp2_with fail
         go_ret
         exact ⟨ret_bool (by rw [HWX.out]; simp), ext_trans (ext_trans (ext_alloc (ext_refl _) _) hb1) hb2⟩
    · rw [wholeS_bad c1 c2 c3 hc]
      by_cases d1 : op < 4
      · have f4 : (op == 4) = false := by rw [beq_eq_false_iff_ne]; omega
        have f5 : (op == 5) = false := by rw [beq_eq_false_iff_ne]; omega
        have f6 : (op == 6) = false := by rw [beq_eq_false_iff_ne]; omega
        have f7 : (op == 7) = false := by rw [beq_eq_false_iff_ne]; omega
        have f8 : (op == 8) = false := by rw [beq_eq_false_iff_ne]; omega
        clear hc
        go_enter Try.func159, Try.ntmps159
        go_wp2_with fail
        go_ret
        exact ⟨rfl, ext_alloc (ext_refl _) _⟩
      by_cases d2 : 8 < op
      · have f4 : (op == 4) = false := by rw [beq_eq_false_iff_ne]; omega
        have f5 : (op == 5) = false := by rw [beq_eq_false_iff_ne]; omega
        have f6 : (op == 6) = false := by rw [beq_eq_false_iff_ne]; omega
        have f7 : (op == 7) = false := by rw [beq_eq_false_iff_ne]; omega
        have f8 : (op == 8) = false := by rw [beq_eq_false_iff_ne]; omega
        clear hc
        go_enter Try.func159, Try.ntmps159
        go_wp2_with fail
        go_ret
        exact ⟨rfl, ext_alloc (ext_refl _) _⟩
      have hop : op = 4 ∨ op = 5 ∨ op = 6 ∨ op = 7 ∨ op = 8 := by omega
      clear e1 e2 e3 c1 c2 c3 h1 h2
      by_cases d3 : n = 0
      · subst d3
        have d4 : ((args.length : Int) == 2) = false := by rw [beq_eq_false_iff_ne]; omega
        clear hc d1 d2
        rcases hop with rfl | rfl | rfl | rfl | rfl
        all_goals
          go_enter Try.func159, Try.ntmps159
          go_wp2_with fail
          go_ret
          exact ⟨rfl, ext_alloc (ext_refl _) _⟩
      · have d4 : (n == 0) = false := by rw [beq_eq_false_iff_ne]; omega
        clear hc d1 d2
        rcases hop with rfl | rfl | rfl | rfl | rfl
        all_goals
          go_enter Try.func159, Try.ntmps159
          go_wp2_with fail
          go_ret
          exact ⟨rfl, ext_alloc (ext_refl _) _⟩
end Go.Proofs.Ytonckpblbdopmaa
