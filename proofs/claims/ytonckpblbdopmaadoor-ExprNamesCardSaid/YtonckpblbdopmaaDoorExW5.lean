/-
  Walks: the document's below, May on both sides, Variable on both sides, at.
-/
import Derived.Test.YtonckpblbdopmaaDoorExW4
namespace Go.Proofs.YtonckpblbdopmaaDoor
set_option linter.unusedVariables false
open Go Go.RowKit

theorem belowL_drop (n : Int) (l : List Ex) (k : Nat) (h : k < l.length) : belowL n (l.drop k) = (belowS n l[k] && belowL n (l.drop (k + 1))) := by
  rw [List.drop_eq_getElem_cons h]; rfl

set_option maxRecDepth 100000 in
set_option maxHeartbeats 4000000 in
theorem rbelow_any (s : Nat) : ∀ (e : Ex) (n : Int) (w : World) (v0 v1 v2 : Value), sizeE e ≤ s → RdEx w e v0 v1 v2 →
    Calls Tryd.prog 38 #[.agg #[v0, v1, v2], .int .i64 n] w fun e' w' => e' = .returned (.bool (belowS n e)) ∧ Below w.heap.size w w' := by
  induction s with
  | zero => intro e n w v0 v1 v2 h; have := sizeE_pos e; omega
  | succ s ih =>
  intro e n w v0 v1 v2 hs hr
  cases e with | mk op m args =>
  unfold RdEx at hr
  obtain ⟨rfl, rfl, -, -, a, cap, rfl, hlen, hx⟩ := hr
  simp only [sizeE] at hs
  have IH := hid ih; clear ih
  have HX := hid hx; clear hx
  by_cases c : op = 3 ∧ n ≤ m
  · obtain ⟨rfl, c⟩ := c
    go_enter Tryd.func38, Tryd.ntmps38
    go_wp2_with fail
    go_ret
    exact ⟨ret_bool (by simp [belowS, c]), ext_alloc (ext_refl _) _⟩
  · have hw : belowS n (.mk op m args) = belowL n args := by
      simp only [belowS]
      have : (decide (op = 3) && decide (n ≤ m)) = false := by simp; omega
      simp [this]
    rw [hw]
    have hop : (op == 3) = false ∨ op = 3 ∧ m < n := by
      by_cases h : op = 3
      · right; omega
      · left; rw [beq_eq_false_iff_ne]; exact h
    clear c hw
    rcases hop with c1 | ⟨rfl, c2⟩
    all_goals
      go_enter Tryd.func38, Tryd.ntmps38
      go_wp2_with fail
      go_loopw [5] (fun i wr => ∃ k : Nat, k ≤ args.length ∧ i = .int .i64 k ∧ Hid (belowL n args = belowL n (args.drop k)) ∧ wr.cell? ⟨w.heap.size, 2, none⟩ = some (.slice a args.length cap) ∧ Below w.heap.size w wr) (fun i _ => args.length - (intOf i).toNat)
      case atStart => exact ⟨0, Nat.zero_le _, rfl, rfl, by simp, ext_alloc (ext_refl _) _⟩
      case round =>
        obtain ⟨k, hk, rfl, HF, hcb, hb⟩ := hrel
        by_cases hlt : k < args.length
        · obtain ⟨b, off, rfl, hrd⟩ := HX.out (by intro h; subst h; simp at hlt)
          obtain ⟨a', cap', e0, e1, e2, hx⟩ := hrd.get' k hlt
          have d0 := later hb e0
          have d1 := later hb e1
          have d2 := later hb e2
          have HY := hid (hx.below hb)
          have HD := hid (belowL_drop n args k hlt)
          have hle := sizeL_get_le args k hlt
          have hb2 : sizeE args[k] ≤ s := by omega
          clear hx e0 e1 e2 hrd
          go_wp2_with fail
          refine (IH.out args[k] n _ _ _ _ hb2 HY.out).mono ?_
          rintro e w1 ⟨rfl, hb1⟩
          cases hpk : belowS n args[k]
          · have HPK := hid hpk; clear hpk
            go_wp2_with fail
            go_ret
            exact ⟨ret_bool (by rw [HF.out, HD.out, HPK.out]; simp), ext_trans hb hb1⟩
          · have HPK := hid hpk; clear hpk
            go_wp2_with fail
            go_roundw
            case rel => exact ⟨k + 1, hlt, by go_num, hid (by rw [HF.out, HD.out, HPK.out]; simp), later hb1 hcb, ext_trans hb hb1⟩
            case measure => simp [intOf]; omega
        · obtain rfl : k = args.length := by omega
          go_wp2_with fail
          go_ret
          exact ⟨ret_bool (by rw [HF.out]; simp [belowL]), hb⟩

set_option maxRecDepth 100000 in
set_option maxHeartbeats 4000000 in
theorem may_any (e : Ex) (n : Int) (w : World) (v0 v1 v2 : Value) (h : RdEx w e v0 v1 v2) :
    Calls Tryd.prog 17 #[.agg #[v0, v1, v2], .int .i64 n] w fun e' w' => e' = .returned (.bool (mayS e n)) ∧ Below w.heap.size w w' := by
  have HR := hid h
  obtain ⟨a, cap, rfl, rfl, rfl⟩ := h.shape
  clear h
  unfold mayS
  go_enter Tryd.func17, Tryd.ntmps17
  go_wp2_with fail
  refine (Whole_any e _ _ _ _ (HR.out.below ?_)).mono ?_
  · exact ext_alloc (ext_refl _) _
  rintro e' w1 ⟨rfl, hb1⟩
  have hc := bcell hb1
  cases hpk : wholeS 6 e
  · have HPK := hid hpk; clear hpk
    go_wp2_with fail
    go_ret
    exact ⟨ret_bool (by rw [HPK.out]; simp), ext_trans (ext_alloc (ext_refl _) _) hb1⟩
  · have HPK := hid hpk; clear hpk
    go_wp2_with fail
    refine (below_any (sizeE e) e n _ _ _ _ (Nat.le_refl _) (HR.out.below ?_)).mono ?_
    · exact ext_trans (ext_alloc (ext_refl _) _) hb1
    rintro e' w2 ⟨rfl, hb2⟩
    go_wp2_with fail
    go_ret
    exact ⟨ret_bool (by rw [HPK.out]; simp), ext_trans (ext_trans (ext_alloc (ext_refl _) _) hb1) hb2⟩

set_option maxRecDepth 100000 in
set_option maxHeartbeats 4000000 in
theorem rmay_any (e : Ex) (n : Int) (w : World) (v0 v1 v2 : Value) (h : RdEx w e v0 v1 v2) :
    Calls Tryd.prog 26 #[.agg #[v0, v1, v2], .int .i64 n] w fun e' w' => e' = .returned (.bool (mayS e n)) ∧ Below w.heap.size w w' := by
  have HR := hid h
  obtain ⟨a, cap, rfl, rfl, rfl⟩ := h.shape
  clear h
  unfold mayS
  go_enter Tryd.func26, Tryd.ntmps26
  go_wp2_with fail
  refine (rWhole_any e _ _ _ _ (HR.out.below ?_)).mono ?_
  · exact ext_alloc (ext_refl _) _
  rintro e' w1 ⟨rfl, hb1⟩
  have hc := bcell hb1
  cases hpk : wholeS 6 e
  · have HPK := hid hpk; clear hpk
    go_wp2_with fail
    go_ret
    exact ⟨ret_bool (by rw [HPK.out]; simp), ext_trans (ext_alloc (ext_refl _) _) hb1⟩
  · have HPK := hid hpk; clear hpk
    go_wp2_with fail
    refine (rbelow_any (sizeE e) e n _ _ _ _ (Nat.le_refl _) (HR.out.below ?_)).mono ?_
    · exact ext_trans (ext_alloc (ext_refl _) _) hb1
    rintro e' w2 ⟨rfl, hb2⟩
    go_wp2_with fail
    go_ret
    exact ⟨ret_bool (by rw [HPK.out]; simp), ext_trans (ext_trans (ext_alloc (ext_refl _) _) hb1) hb2⟩

/-- Variable: the value, and the error. -/
def varS (x v : Int) : Int × Int := if v < 1 then (0, 1) else (x % v, 0)
theorem varS_pos {x v : Int} (h : 1 ≤ v) : varS x v = (x % v, 0) := by
  unfold varS; rw [if_neg (by omega)]
theorem tmod_neg {x v : Int} (hv : 1 ≤ v) (h : x.tmod v < 0) : x.tmod v + v = x % v := by
  rw [Int.tmod_eq_emod]
  rw [Int.tmod_eq_emod] at h
  split at h
  · have := Int.emod_nonneg x (b := v) (by omega); omega
  · rename_i hh
    simp only [hh, if_false]
    have : ((v.natAbs : Nat) : Int) = v := by omega
    omega
theorem tmod_pos {x v : Int} (hv : 1 ≤ v) (h : ¬ x.tmod v < 0) : x.tmod v = x % v := by
  rw [Int.tmod_eq_emod]
  rw [Int.tmod_eq_emod] at h
  split at h
  · rename_i hh; simp [hh]
  · rename_i hh
    have := Int.emod_lt_of_pos x (b := v) (by omega)
    exfalso
    have : ((v.natAbs : Nat) : Int) = v := by omega
    omega

set_option maxRecDepth 100000 in
set_option maxHeartbeats 4000000 in
theorem variable_any (x v : Int) (w : World) (hv : v ≤ 9223372036854775807) :
    Calls Tryd.prog 10 #[.int .i64 x, .int .i64 v] w fun e' w' => e' = .returned (.tuple #[.int .i64 (varS x v).1, .int .i64 (varS x v).2]) ∧ w = w' := by
  by_cases h : v < 1
  · go_enter Tryd.func10, Tryd.ntmps10
    go_wp2_with fail
    go_ret2
    exact ⟨ret_two (by simp [varS, h]) (by simp [varS, h]), rfl⟩
  · have h1 : 1 ≤ v := by omega
    rw [varS_pos h1]
    clear h
    by_cases hn : x.tmod v < 0
    · have H := hid (tmod_neg h1 hn)
      have hb1 := Int.emod_nonneg x (b := v) (by omega)
      have hb2 := Int.emod_lt_of_pos x (b := v) (by omega)
      have hs1 : -9223372036854775808 ≤ x.tmod v + v := by rw [H.out]; omega
      have hs2 : x.tmod v + v ≤ 9223372036854775807 := by rw [H.out]; omega
      clear hb1 hb2
      go_enter Tryd.func10, Tryd.ntmps10
      go_wp2_with fail
      go_ret2
      exact ⟨ret_two H.out rfl, rfl⟩
    · have H := hid (tmod_pos h1 hn)
      go_enter Tryd.func10, Tryd.ntmps10
      go_wp2_with fail
      go_ret2
      exact ⟨ret_two H.out rfl, rfl⟩
set_option maxRecDepth 100000 in
set_option maxHeartbeats 4000000 in
theorem rvariable_any (x v : Int) (w : World) (hv : v ≤ 9223372036854775807) :
    Calls Tryd.prog 11 #[.int .i64 x, .int .i64 v] w fun e' w' => e' = .returned (.tuple #[.int .i64 (varS x v).1, .int .i64 (varS x v).2]) ∧ w = w' := by
  by_cases h : v < 1
  · go_enter Tryd.func11, Tryd.ntmps11
    go_wp2_with fail
    go_ret2
    exact ⟨ret_two (by simp [varS, h]) (by simp [varS, h]), rfl⟩
  · have h1 : 1 ≤ v := by omega
    rw [varS_pos h1]
    clear h
    by_cases hn : x.tmod v < 0
    · have H := hid (tmod_neg h1 hn)
      have hb1 := Int.emod_nonneg x (b := v) (by omega)
      have hb2 := Int.emod_lt_of_pos x (b := v) (by omega)
      have hs1 : -9223372036854775808 ≤ x.tmod v + v := by rw [H.out]; omega
      have hs2 : x.tmod v + v ≤ 9223372036854775807 := by rw [H.out]; omega
      clear hb1 hb2
      go_enter Tryd.func11, Tryd.ntmps11
      go_wp2_with fail
      go_ret2
      exact ⟨ret_two H.out rfl, rfl⟩
    · have H := hid (tmod_pos h1 hn)
      go_enter Tryd.func11, Tryd.ntmps11
      go_wp2_with fail
      go_ret2
      exact ⟨ret_two H.out rfl, rfl⟩

set_option maxRecDepth 100000 in
set_option maxHeartbeats 4000000 in
theorem at_any (l : List Int) (n : Int) (w : World) (v : Value) (h : RdInts w l v) (h0 : 0 ≤ n) :
    Calls Tryd.prog 40 #[v, .int .i64 n] w fun e' w' => e' = .returned (.tuple #[.int .i64 (atS l n).1, .int .i64 (atS l n).2]) ∧ w = w' := by
  obtain ⟨a, cap, rfl, hlen, -, hx⟩ := h
  obtain ⟨k, rfl⟩ := Int.eq_ofNat_of_zero_le h0
  by_cases hlt : k < l.length
  · obtain ⟨b, off, rfl, hc⟩ := hx (by intro h; subst h; simp at hlt)
    have hk := hc k hlt
    clear hc hx
    go_enter Tryd.func40, Tryd.ntmps40
    go_wp2_with fail
    go_ret2
    exact ⟨ret_two (by simp [atS, hlt]) (by simp [atS, hlt]), rfl⟩
  · have hge : l.length ≤ k := by omega
    clear hx
    go_enter Tryd.func40, Tryd.ntmps40
    go_wp2_with fail
    go_ret2
    exact ⟨ret_two (by simp [atS, hlt]) (by simp [atS, hlt]), rfl⟩
end Go.Proofs.YtonckpblbdopmaaDoor
