/-
  Walks: the document's below, May on both sides, Variable on both sides, at.
-/
import Derived.Test.YtonckpblbdopmaaExW4
namespace Go.Proofs.Ytonckpblbdopmaa
set_option linter.unusedVariables false
open Go Go.RowKit

theorem belowL_drop (n : Int) (l : List Ex) (k : Nat) (h : k < l.length) : belowL n (l.drop k) = (belowS n l[k] && belowL n (l.drop (k + 1))) := by
  rw [List.drop_eq_getElem_cons h]; rfl

set_option maxRecDepth 100000 in
set_option maxHeartbeats 4000000 in
theorem rbelow_any (s : Nat) : ∀ (e : Ex) (n : Int) (w : World) (v0 v1 v2 : Value), sizeE e ≤ s → RdEx w e v0 v1 v2 →
    Calls Try.prog 154 #[.agg #[v0, v1, v2], .int .i64 n] w fun e' w' => e' = .returned (.bool (belowS n e)) ∧ Below w.heap.size w w' := by
  induction s with
  | zero => intro e n w v0 v1 v2 h; have := sizeE_pos e; omega
  | succ s ih =>
  intro e n w v0 v1 v2 hs hr
  cases e with | mk op m args =>
  unfold RdEx at hr
  obtain ⟨rfl, rfl, -, -, a, cap, rfl, hlen, hx⟩ := hr
  simp only [sizeE] at hs
  have IH := hid ih; clear ih
  have HX := hid hx; clear hx
  by_cases c : op = 3 ∧ n ≤ m
  · obtain ⟨rfl, c⟩ := c
    go_enter Try.func154, Try.ntmps154
    go_wp2_with fail
    go_ret
    exact ⟨ret_bool (by simp [belowS, c]), ext_alloc (ext_refl _) _⟩
  · have hw : belowS n (.mk op m args) = belowL n args := by
      simp only [belowS]
      have : (decide (op = 3) && decide (n ≤ m)) = false := by simp; omega
      simp [this]
    rw [hw]
    have hop : (op == 3) = false ∨ op = 3 ∧ m < n := by
      by_cases h : op = 3
      · right; omega
      · left; rw [beq_eq_false_iff_ne]; exact h
    clear c hw
    rcases hop with c1 | ⟨rfl, c2⟩
    all_goals
      go_enter Try.func154, Try.ntmps154
      go_wp2_with fail
      go_loopw [5] (fun i wr => ∃ k : Nat, k ≤ args.length ∧ i = .int .i64 k ∧ Hid (belowL n args = belowL n (args.drop k)) ∧ wr.cell? ⟨w.heap.size, 2, none⟩ = some (.slice a args.length cap) ∧ Below w.heap.size w wr) (fun i _ => args.length - (intOf i).toNat)
      case atStart => exact ⟨0, Nat.zero_le _, rfl, rfl, by simp, ext_alloc (ext_refl _) _⟩
      case round =>
        obtain ⟨k, hk, rfl, HF, hcb, hb⟩ := hrel
        by_cases hlt : k < args.length
        · obtain ⟨b, off, rfl, hrd⟩ := HX.out (by intro h; subst h; simp at hlt)
          obtain ⟨a', cap', e0, e1, e2, hx⟩ := hrd.get' k hlt
          have d0 := later hb e0
          have d1 := later hb e1
          have d2 := later hb e2
          have HY := hid (hx.below hb)
          have HD := hid (belowL_drop n args k hlt)
          have hle := sizeL_get_le args k hlt
          have hb2 : sizeE args[k] ≤ s := by omega
          clear hx e0 e1 e2 hrd
          go_wp2_with fail
          refine (IH.out args[k] n _ _ _ _ hb2 HY.out).mono ?_
          rintro e w1 ⟨rfl, hb1⟩
          cases hpk : belowS n args[k]
          · have HPK := hid hpk; clear hpk
            go_wp2_with fail
            go_ret
            exact ⟨ret_bool (by rw [HF.out, HD.out, HPK.out]; simp), ext_trans hb hb1⟩
          · have HPK := hid hpk; clear hpk
            go_wp2_with fail
            go_roundw
            case rel => exact ⟨k + 1, hlt, by go_num, hid (by rw [HF.out, HD.out, HPK.out]; simp), later hb1 hcb, ext_trans hb hb1⟩
            case measure => simp [intOf]; omega
        · obtain rfl : k = args.length := by omega
          go_wp2_with fail
          go_ret
          exact ⟨ret_bool (by rw [HF.out]; simp [belowL]), hb⟩

set_option maxRecDepth 100000 in
set_option maxHeartbeats 4000000 in
theorem may_any (e : Ex) (n : Int) (w : World) (v0 v1 v2 : Value) (h : RdEx w e v0 v1 v2) :
    Calls Try.prog 112 #[.agg #[v0, v1, v2], .int .i64 n] w fun e' w' => e' = .returned (.bool (mayS e n)) ∧ Below w.heap.size w w' := by
  have HR := hid h
  obtain ⟨a, cap, rfl, rfl, rfl⟩ := h.shape
  clear h
  unfold mayS
  go_enter Try.func112, Try.ntmps112
  go_wp2_with fail
  refine (Whole_any e _ _ _ _ (HR.out.below ?_)).mono ?_
  · exact ext_alloc (ext_refl _) _
  rintro e' w1 ⟨rfl, hb1⟩
  have hc := bcell hb1
  cases hpk : wholeS 6 e
  · have HPK := hid hpk; clear hpk
    go_wp2_with fail
    go_ret
    exact ⟨ret_bool (by rw [HPK.out]; simp), ext_trans (ext_alloc (ext_refl _) _) hb1⟩
  · have HPK := hid hpk; clear hpk
    go_wp2_with fail
    refine (below_any (sizeE e) e n _ _ _ _ (Nat.le_refl _) (HR.out.below ?_)).mono ?_
    · exact ext_trans (ext_alloc (ext_refl _) _) hb1
    rintro e' w2 ⟨rfl, hb2⟩
    go_wp2_with fail
    go_ret
    exact ⟨ret_bool (by rw [HPK.out]; simp), ext_trans (ext_trans (ext_alloc (ext_refl _) _) hb1) hb2⟩

set_option maxRecDepth 100000 in
set_option maxHeartbeats 4000000 in
theorem rmay_any (e : Ex) (n : Int) (w : World) (v0 v1 v2 : Value) (h : RdEx w e v0 v1 v2) :
    Calls Try.prog 139 #[.agg #[v0, v1, v2], .int .i64 n] w fun e' w' => e' = .returned (.bool (mayS e n)) ∧ Below w.heap.size w w' := by
  have HR := hid h
  obtain ⟨a, cap, rfl, rfl, rfl⟩ := h.shape
  clear h
  unfold mayS
  go_enter Try.func139, Try.ntmps139
  go_wp2_with fail
  refine (rWhole_any e _ _ _ _ (HR.out.below ?_)).mono ?_
  · exact ext_alloc (ext_refl _) _
  rintro e' w1 ⟨rfl, hb1⟩
  have hc := bcell hb1
  cases hpk : wholeS 6 e
  · have HPK := hid hpk; clear hpk
    go_wp2_with fail
    go_ret
    exact ⟨ret_bool (by rw [HPK.out]; simp), ext_trans (ext_alloc (ext_refl _) _) hb1⟩
  · have HPK := hid hpk; clear hpk
    go_wp2_with fail
    refine (rbelow_any (sizeE e) e n _ _ _ _ (Nat.le_refl _) (HR.out.below ?_)).mono ?_
    · exact ext_trans (ext_alloc (ext_refl _) _) hb1
    rintro e' w2 ⟨rfl, hb2⟩
    go_wp2_with fail
    go_ret
    exact ⟨ret_bool (by rw [HPK.out]; simp), ext_trans (ext_trans (ext_alloc (ext_refl _) _) hb1) hb2⟩

end Go.Proofs.Ytonckpblbdopmaa
