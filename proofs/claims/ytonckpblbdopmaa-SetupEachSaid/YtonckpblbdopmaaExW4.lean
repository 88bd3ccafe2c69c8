/-
  Walks: below of expressions (by slices.ContainsFunc and a closure), the document's below, and May on both sides.
-/
import Derived.Test.YtonckpblbdopmaaExW3
namespace Go.Proofs.Ytonckpblbdopmaa
set_option linter.unusedVariables false
open Go Go.RowKit

/-- The place of the first one that p says yes of; -1: none. -/
def findS (p : Ex → Bool) : List Ex → Nat → Int
  | [], _ => -1
  | x :: xs, k => if p x then k else findS p xs (k + 1)
theorem findS_lt (p : Ex → Bool) (l : List Ex) (k : Nat) : findS p l k < k + l.length := by
  induction l generalizing k with
  | nil => simp [findS]; omega
  | cons x xs ih =>
    simp only [findS]
    split
    · simp; omega
    · have := ih (k + 1); simp at this ⊢; omega
theorem findS_any (p : Ex → Bool) (l : List Ex) (k : Nat) : decide (0 ≤ findS p l k) = l.any p := by
  induction l generalizing k with
  | nil => simp [findS]
  | cons x xs ih =>
    simp only [findS, List.any_cons]
    split
    · rename_i h; simp [h]
    · rename_i h; simp [ih, h]
theorem findS_drop (p : Ex → Bool) (l : List Ex) (k : Nat) (h : k < l.length) : findS p (l.drop k) k = if p l[k] then (k : Int) else findS p (l.drop (k + 1)) (k + 1) := by
  rw [List.drop_eq_getElem_cons h]; rfl
theorem belowL_any (n : Int) (l : List Ex) : belowL n l = !l.any (fun e => !belowS n e) := by
  induction l with
  | nil => rfl
  | cons x xs ih => simp [belowL, ih]

set_option maxRecDepth 100000 in
set_option maxHeartbeats 4000000 in
/-- slices.IndexFunc over expressions, with the closure of below: given what the closure answers at each element. -/
theorem index_any (l : List Ex) (p : Ex → Bool) (w : World) (a : Option Addr) (cap : Nat) (ptr : Value) (hlen : l.length ≤ 9223372036854775807)
    (hx : l ≠ [] → ∃ b off, a = some ⟨b, off, none⟩ ∧ RdExs w b off l)
    (hp : ∀ k (h : k < l.length) w' v0 v1 v2, Below w.heap.size w w' → RdEx w' l[k] v0 v1 v2 →
      Calls Try.prog 151 #[.agg #[v0, v1, v2], ptr] w' fun e' w'' => e' = .returned (.bool (p l[k])) ∧ Below w'.heap.size w' w'') :
    Calls Try.prog 158 #[.slice a l.length cap, .func (.func 151) #[] #[ptr]] w fun e' w' => e' = .returned (.int .i64 (findS p l 0)) ∧ Below w.heap.size w w' := by
  have HX := hid hx; clear hx
  have HP := hid hp; clear hp
  go_enter Try.func158, Try.ntmps158
  go_wp2_with fail
  go_loopw [8] (fun i wr => ∃ k : Nat, k ≤ l.length ∧ i = .int .i64 k ∧ Hid (findS p l 0 = findS p (l.drop k) k) ∧ Below w.heap.size w wr) (fun i _ => l.length - (intOf i).toNat)
  case atStart => exact ⟨0, Nat.zero_le _, rfl, rfl, ext_refl _⟩
  case round =>
    obtain ⟨k, hk, rfl, HF, hb⟩ := hrel
    by_cases hlt : k < l.length
    · obtain ⟨b, off, rfl, hrd⟩ := HX.out (by intro h; subst h; simp at hlt)
      obtain ⟨a', cap', c0, c1, c2, hx⟩ := hrd.get' k hlt
      have d0 := later hb c0
      have d1 := later hb c1
      have d2 := later hb c2
      have HY := hid (hx.below hb)
      have HD := hid (findS_drop p l k hlt)
      clear hx c0 c1 c2 hrd
      go_wp2_with fail
      refine (HP.out k hlt _ _ _ _ hb HY.out).mono ?_
      rintro e w1 ⟨rfl, hb1⟩
      cases hpk : p l[k]
      · have HPK := hid hpk; clear hpk
        go_wp2_with fail
        go_roundw
        case rel => exact ⟨k + 1, hlt, by go_num, hid (by rw [HF.out, HD.out, HPK.out]; simp), ext_trans hb hb1⟩
        case measure => simp [intOf]; omega
      · have HPK := hid hpk; clear hpk
        go_wp2_with fail
        go_ret
        exact ⟨ret_int (by rw [HF.out, HD.out, HPK.out]; simp), ext_trans hb hb1⟩
    · obtain rfl : k = l.length := by omega
      go_wp2_with fail
      go_ret
      exact ⟨ret_int (by rw [HF.out]; simp [findS]), hb⟩

set_option maxRecDepth 100000 in
set_option maxHeartbeats 4000000 in
theorem contains_any (l : List Ex) (p : Ex → Bool) (w : World) (a : Option Addr) (cap : Nat) (ptr : Value) (hlen : l.length ≤ 9223372036854775807)
    (hx : l ≠ [] → ∃ b off, a = some ⟨b, off, none⟩ ∧ RdExs w b off l)
    (hp : ∀ k (h : k < l.length) w' v0 v1 v2, Below w.heap.size w w' → RdEx w' l[k] v0 v1 v2 →
      Calls Try.prog 151 #[.agg #[v0, v1, v2], ptr] w' fun e' w'' => e' = .returned (.bool (p l[k])) ∧ Below w'.heap.size w' w'') :
    Calls Try.prog 150 #[.slice a l.length cap, .func (.func 151) #[] #[ptr]] w fun e' w' => e' = .returned (.bool (l.any p)) ∧ Below w.heap.size w w' := by
  have H := hid (index_any l p w a cap ptr hlen hx hp); clear hx hp
  have HF := hid (findS_any p l 0)
  go_enter Try.func150, Try.ntmps150
  go_wp2_with fail
  refine H.out.mono ?_
  rintro e w1 ⟨rfl, hb1⟩
  generalize findS p l 0 = r at *
  go_wp2_with fail
  go_ret
  exact ⟨ret_bool HF.out, hb1⟩

set_option maxRecDepth 100000 in
set_option maxHeartbeats 4000000 in
theorem below_any (s : Nat) : ∀ (e : Ex) (n : Int) (w : World) (v0 v1 v2 : Value), sizeE e ≤ s → RdEx w e v0 v1 v2 →
    Calls Try.prog 136 #[.agg #[v0, v1, v2], .int .i64 n] w fun e' w' => e' = .returned (.bool (belowS n e)) ∧ Below w.heap.size w w' := by
  induction s with
  | zero => intro e n w v0 v1 v2 h; have := sizeE_pos e; omega
  | succ s ih =>
  intro e n w v0 v1 v2 hs hr
  cases e with | mk op m args =>
  have hr0 := hr
  unfold RdEx at hr
  obtain ⟨rfl, rfl, -, -, a, cap, rfl, hlen, hx⟩ := hr
  simp only [sizeE] at hs
  -- the closure: its number n stands in the cell that it holds
  have hclo : ∀ (l : List Ex) (w' : World) (k : Nat) (h : k < l.length) (b : Nat) (v0 v1 v2 : Value), sizeL l ≤ s → w'.cell? ⟨b, 0, none⟩ = some (.int .i64 n) → RdEx w' l[k] v0 v1 v2 →
      Calls Try.prog 151 #[.agg #[v0, v1, v2], .pointer (some ⟨b, 0, none⟩)] w' fun e' w'' => e' = .returned (.bool (!belowS n l[k])) ∧ Below w'.heap.size w' w'' := by
    intro l w' k h b v0 v1 v2 hsl hc hrk
    have hk := sizeL_get_le l k h
    have H := hid (ih l[k] n (w'.alloc (.cells #[v0, v1, v2] 50)) v0 v1 v2 (by omega) (hrk.below (ext_alloc (ext_refl _) _)))
    have hlt := lt_of_cell hc
    obtain ⟨a, cap, rfl, rfl, rfl⟩ := hrk.shape
    clear hrk ih hs hx hr0
    go_enter Try.func151, Try.ntmps151
    go_wp2_with fail
    refine H.out.mono ?_
    rintro e w1 ⟨rfl, hb1⟩
    go_wp2_with fail
    go_ret
    exact ⟨rfl, ext_trans (ext_alloc (ext_refl _) _) hb1⟩
  by_cases c : op = 3 ∧ n ≤ m
  · obtain ⟨rfl, c⟩ := c
    clear hx hclo ih
    go_enter Try.func136, Try.ntmps136
    go_wp2_with fail
    go_ret
    exact ⟨ret_bool (by simp [belowS, c]), ext_alloc (ext_alloc (ext_refl _) _) _⟩
  · have hw : belowS n (.mk op m args) = !args.any (fun e => !belowS n e) := by
      rw [← belowL_any]; simp only [belowS]
      have : (decide (op = 3) && decide (n ≤ m)) = false := by simp; omega
      simp [this]
    rw [hw]
    have hA : Below w.heap.size w ((w.alloc (.cells #[.int .u8 op, .int .i64 m, .slice a args.length cap] 50)).alloc (.cells #[.int .i64 n] 3)) := ext_alloc (ext_alloc (ext_refl _) _) _
    have H := hid (contains_any args (fun e => !belowS n e) _ a cap (.pointer (some ⟨w.heap.size + 1, 0, none⟩)) hlen
      (fun hne => by obtain ⟨b, off, h1, h2⟩ := hx hne; exact ⟨b, off, h1, RdExs.below hA _ h2⟩)
      (fun k h w' v0 v1 v2 hb hr => hclo args w' k h _ v0 v1 v2 (by omega) (later hb (by simp)) hr))
    clear hclo hx hw hA ih hr0
    by_cases c1 : op = 3
    · subst c1
      have c2 : m < n := by omega
      go_enter Try.func136, Try.ntmps136
      go_wp2_with fail
      refine H.out.mono ?_
      rintro e w1 ⟨rfl, hb1⟩
      go_wp2_with fail
      go_ret
      exact ⟨rfl, ext_trans (ext_alloc (ext_alloc (ext_refl _) _) _) hb1⟩
    · have c2 : (op == 3) = false := by rw [beq_eq_false_iff_ne]; omega
      go_enter Try.func136, Try.ntmps136
      go_wp2_with fail
      refine H.out.mono ?_
      rintro e w1 ⟨rfl, hb1⟩
      go_wp2_with fail
      go_ret
      exact ⟨rfl, ext_trans (ext_alloc (ext_alloc (ext_refl _) _) _) hb1⟩
end Go.Proofs.Ytonckpblbdopmaa
