/-
  Joined texts: ExW1 ExW2 ExW3 ExW4 ExMy.
-/
import Derived.Test.YtaklfjjkeebheaaProg
import Derived.Test.YtaklfjjkeebheaaPbV
/-
  Walks: expr.whole, Whole, below, May, Count, and the document's likewise: each returns what its plain function says; what was there stays.
-/
namespace Go.Proofs.Ytaklfjjkeebheaa
set_option linter.unusedVariables false
open Go Go.RowKit

theorem wholeS_two {m : Nat} {op : Int} {x y : Ex} (h1 : 4 ≤ op) (h2 : op ≤ 8) : wholeS (m + 1) (.mk op 0 [x, y]) = (wholeS m x && wholeS m y) := by
  have a1 : ¬ op = 1 := by omega
  have a2 : ¬ op = 2 := by omega
  have a3 : ¬ op = 3 := by omega
  have a4 : ¬ op < 4 := by omega
  have a5 : ¬ 8 < op := by omega
  simp [wholeS, a1, a2, a3, a4, a5]
theorem wholeS_bad {m : Nat} {op n : Int} {args : List Ex} (a1 : ¬ op = 1) (a2 : ¬ op = 2) (a3 : ¬ op = 3) (h : ¬ (args.length = 2 ∧ 4 ≤ op ∧ op ≤ 8 ∧ n = 0)) :
    wholeS (m + 1) (.mk op n args) = false := by
  simp only [wholeS, a1, a2, a3, if_false]
  split
  · rfl
  · rename_i hh
    split
    · exfalso; apply h; simp; omega
    · rfl

set_option maxRecDepth 100000 in
set_option maxHeartbeats 4000000 in
theorem whole_any (m : Nat) : m ≤ 100 → ∀ (e : Ex) (w : World) (v0 v1 v2 : Value), RdEx w e v0 v1 v2 →
    Calls Try.prog 76 #[.agg #[v0, v1, v2], .int .i64 m] w fun e' w' => e' = .returned (.bool (wholeS m e)) ∧ Below w.heap.size w w' := by
  induction m with
  | zero =>
    intro _ e w v0 v1 v2 h
    obtain ⟨a, cap, rfl, rfl, rfl⟩ := h.shape
    clear h
    go_enter Try.func76, Try.ntmps76
    go_wp2_with fail
    go_ret
    exact ⟨rfl, ext_alloc (ext_refl _) _⟩
  | succ m ih =>
    intro hm e w v0 v1 v2 h
    cases e with | mk op n args =>
    unfold RdEx at h
    obtain ⟨rfl, rfl, ⟨h1, h2⟩, ⟨h3, h4⟩, a, cap, rfl, hl, hx⟩ := h
    have IH := hid (ih (by omega)); clear ih
    have hm0 : (1 : Int) ≤ (m : Int) + 1 := by omega
    by_cases c1 : op = 1
    · subst c1
      clear hx
      go_enter Try.func76, Try.ntmps76
      go_wp2_with fail
      go_ret
      exact ⟨ret_bool (by cases args <;> simp [wholeS] <;> omega), ext_alloc (ext_refl _) _⟩
    by_cases c2 : op = 2
    · subst c2
      clear hx
      go_enter Try.func76, Try.ntmps76
      go_wp2_with fail
      all_goals go_ret
      all_goals refine ⟨ret_bool ?_, ext_alloc (ext_refl _) _⟩
      all_goals (cases args <;> simp_all [wholeS] <;> omega)
    by_cases c3 : op = 3
    · subst c3
      clear hx
      go_enter Try.func76, Try.ntmps76
      go_wp2_with fail
      all_goals go_ret
      all_goals refine ⟨ret_bool ?_, ext_alloc (ext_refl _) _⟩
      all_goals (cases args <;> simp_all [wholeS] <;> omega)
    have e1 : (op == 1) = false := by rw [beq_eq_false_iff_ne]; omega
    have e2 : (op == 2) = false := by rw [beq_eq_false_iff_ne]; omega
    have e3 : (op == 3) = false := by rw [beq_eq_false_iff_ne]; omega
    by_cases hc : args.length = 2 ∧ 4 ≤ op ∧ op ≤ 8 ∧ n = 0
    · obtain ⟨hc1, hc2, hc3, rfl⟩ := hc
      match args, hc1, hx with
      | [x, y], _, hx =>
      obtain ⟨b, off, rfl, hy⟩ := hx (by simp)
      obtain ⟨a0, cap0, hu0, hu1, hu2, hx0⟩ := hy.get' 0 (by simp)
      obtain ⟨a1, cap1, ht0, ht1, ht2, hx1⟩ := hy.get' 1 (by simp)
      simp only [Nat.zero_mul, Nat.add_zero, Nat.one_mul, List.getElem_cons_zero, List.getElem_cons_succ] at hu0 hu1 hu2 hx0 ht0 ht1 ht2 hx1
      have hlt := lt_of_cell hu0
      have HX := hid hx0
      have HY := hid hx1
      rw [wholeS_two hc2 hc3]
      clear hx0 hx1 hx hy
      go_enter Try.func76, Try.ntmps76
      go_wp2_with fail
      refine (IH.out x _ _ _ _ (RdEx.below ?_ x HX.out)).mono ?_
      · exact ext_alloc (ext_refl _) _
      rintro e w1 ⟨rfl, hb1⟩
      have hc1 := bcell hb1
      cases hwx : wholeS m x
      · have HWX := hid hwx; clear hwx
        go_wp2_with fail
        go_ret
        exact ⟨ret_bool (by rw [HWX.out]; simp), ext_trans (ext_alloc (ext_refl _) _) hb1⟩
      · have HWX := hid hwx; clear hwx
        go_wp2_with fail
        refine (IH.out y _ _ _ _ (RdEx.below ?_ y HY.out)).mono ?_
        · exact ext_trans (ext_alloc (ext_refl _) _) hb1
        rintro e w2 ⟨rfl, hb2⟩
        go_wp2_with fail
        go_ret
        exact ⟨ret_bool (by rw [HWX.out]; simp), ext_trans (ext_trans (ext_alloc (ext_refl _) _) hb1) hb2⟩
    · rw [wholeS_bad c1 c2 c3 hc]
      by_cases d1 : op < 4
      · go_enter Try.func76, Try.ntmps76
        go_wp2_with fail
        go_ret
        exact ⟨rfl, ext_alloc (ext_refl _) _⟩
      by_cases d2 : 8 < op
      · go_enter Try.func76, Try.ntmps76
        go_wp2_with fail
        go_ret
        exact ⟨rfl, ext_alloc (ext_refl _) _⟩
      by_cases d3 : n = 0
      · subst d3
        have d4 : ((args.length : Int) != 2) = true := by rw [bne_iff_ne]; omega
        clear hc
        go_enter Try.func76, Try.ntmps76
        go_wp2_with fail
        go_ret
        exact ⟨rfl, ext_alloc (ext_refl _) _⟩
      · clear hc
        have d4 : (n != 0) = true := by rw [bne_iff_ne]; omega
        go_enter Try.func76, Try.ntmps76
        go_wp2_with fail
        go_ret
        exact ⟨rfl, ext_alloc (ext_refl _) _⟩
end Go.Proofs.Ytaklfjjkeebheaa
/-
  Walks: the document's whole, and what stands on both: Whole, May's first half.
-/
namespace Go.Proofs.Ytaklfjjkeebheaa
set_option linter.unusedVariables false
open Go Go.RowKit

end Go.Proofs.Ytaklfjjkeebheaa
/-
  Walks: Whole, Count, below, May of expressions, and the document's.
-/
namespace Go.Proofs.Ytaklfjjkeebheaa
set_option linter.unusedVariables false
open Go Go.RowKit

set_option maxRecDepth 100000 in
set_option maxHeartbeats 4000000 in
theorem Whole_any (e : Ex) (w : World) (v0 v1 v2 : Value) (h : RdEx w e v0 v1 v2) :
    Calls Try.prog 74 #[.agg #[v0, v1, v2]] w fun e' w' => e' = .returned (.bool (wholeS 6 e)) ∧ Below w.heap.size w w' := by
  have H := hid (whole_any 6 (by decide) e (w.alloc (.cells #[v0, v1, v2] 89)) v0 v1 v2 (h.below (ext_alloc (ext_refl _) _)))
  obtain ⟨a, cap, rfl, rfl, rfl⟩ := h.shape
  clear h
  go_enter Try.func74, Try.ntmps74
  go_wp2_with fail
  refine H.out.mono ?_
  rintro e w1 ⟨rfl, hb1⟩
  go_wp2_with fail
  go_ret
  exact ⟨rfl, ext_trans (ext_alloc (ext_refl _) _) hb1⟩

set_option maxRecDepth 100000 in
set_option maxHeartbeats 4000000 in
theorem count_any (s : Nat) : ∀ (e : Ex) (w : World) (v0 v1 v2 : Value), sizeE e ≤ s → RdEx w e v0 v1 v2 → sizeE e ≤ 1000000 →
    Calls Try.prog 73 #[.agg #[v0, v1, v2]] w fun e' w' => e' = .returned (.int .i64 (sizeE e)) ∧ Below w.heap.size w w' := by
  induction s with
  | zero => intro e w v0 v1 v2 h; have := sizeE_pos e; omega
  | succ s ih =>
  intro e w v0 v1 v2 hs hr hc
  cases e with | mk op n args =>
  unfold RdEx at hr
  obtain ⟨rfl, rfl, -, -, a, cap, rfl, hlen, hx⟩ := hr
  have IH := hid ih; clear ih
  simp only [sizeE] at hs hc ⊢
  have HS := hid hs; clear hs
  have HX := hid hx; clear hx
  go_enter Try.func73, Try.ntmps73
  go_wp2_with fail
  go_loopw [3, 9] (fun n i wr => ∃ k : Nat, k ≤ args.length ∧ i = .int .i64 k ∧ n = .int .i64 (1 + sizeL (args.take k) : Nat) ∧ Below w.heap.size w wr) (fun _ i _ => args.length - (intOf i).toNat)
  case atStart => exact ⟨0, Nat.zero_le _, rfl, by simp [sizeL], ext_alloc (ext_refl _) _⟩
  case round =>
    obtain ⟨k, hk, rfl, rfl, hb⟩ := hrel
    by_cases hlt : k < args.length
    · obtain ⟨b, off, rfl, hrd⟩ := HX.out (by intro h; subst h; simp at hlt)
      obtain ⟨a', cap', c0, c1, c2, hx⟩ := hrd.get' k hlt
      have d0 := later hb c0
      have d1 := later hb c1
      have d2 := later hb c2
      have hbl := lt_of_cell d0
      have HY := hid (hx.below (ext_alloc hb (.cells #[.int .u8 args[k].op, .int .i64 args[k].n, .slice a' args[k].args.length cap'] 89)))
      have hle := sizeL_get_le args k hlt
      have hts := sizeL_take_succ args k hlt
      have htl := sizeL_take_le args (k+1)
      have HTS := hid hts
      have hb1 : sizeL (List.take k args) + sizeE args[k] ≤ 1000000 := by omega
      have hb2 : sizeE args[k] ≤ s := by have := HS.out; omega
      have hb3 : sizeE args[k] ≤ 1000000 := by omega
      clear hx hts htl hle hc c0 c1 c2 hrd
      go_wp2_with fail
      refine (IH.out args[k] _ _ _ _ hb2 HY.out hb3).mono ?_
      rintro e w1 ⟨rfl, hb1⟩
      go_wp2_with fail
      go_roundw
      case rel => exact ⟨k + 1, hlt, by go_num, by rw [HTS.out]; go_num, ext_trans (ext_alloc hb _) hb1⟩
      case measure => simp [intOf]; omega
    · obtain rfl : k = args.length := by omega
      go_wp2_with fail
      go_ret
      exact ⟨by simp, hb⟩

end Go.Proofs.Ytaklfjjkeebheaa
/-
  Walks: below of expressions (by slices.ContainsFunc and a closure), the document's below, and May on both sides.
-/
namespace Go.Proofs.Ytaklfjjkeebheaa
set_option linter.unusedVariables false
open Go Go.RowKit

/-- The place of the first one that p says yes of; -1: none. -/
def findS (p : Ex → Bool) : List Ex → Nat → Int
  | [], _ => -1
  | x :: xs, k => if p x then k else findS p xs (k + 1)
theorem findS_lt (p : Ex → Bool) (l : List Ex) (k : Nat) : findS p l k < k + l.length := by
  induction l generalizing k with
  | nil => simp [findS]; omega
  | cons x xs ih =>
    simp only [findS]
    split
    · simp; omega
    · have := ih (k + 1); simp at this ⊢; omega
theorem findS_any (p : Ex → Bool) (l : List Ex) (k : Nat) : decide (0 ≤ findS p l k) = l.any p := by
  induction l generalizing k with
  | nil => simp [findS]
  | cons x xs ih =>
    simp only [findS, List.any_cons]
    split
    · rename_i h; simp [h]
    · rename_i h; simp [ih, h]
theorem findS_drop (p : Ex → Bool) (l : List Ex) (k : Nat) (h : k < l.length) : findS p (l.drop k) k = if p l[k] then (k : Int) else findS p (l.drop (k + 1)) (k + 1) := by
  rw [List.drop_eq_getElem_cons h]; rfl
theorem belowL_any (n : Int) (l : List Ex) : belowL n l = !l.any (fun e => !belowS n e) := by
  induction l with
  | nil => rfl
  | cons x xs ih => simp [belowL, ih]

set_option maxRecDepth 100000 in
set_option maxHeartbeats 4000000 in
/-- slices.IndexFunc over expressions, with the closure of below: given what the closure answers at each element. -/
theorem index_any (l : List Ex) (p : Ex → Bool) (w : World) (a : Option Addr) (cap : Nat) (ptr : Value) (hlen : l.length ≤ 9223372036854775807)
    (hx : l ≠ [] → ∃ b off, a = some ⟨b, off, none⟩ ∧ RdExs w b off l)
    (hp : ∀ k (h : k < l.length) w' v0 v1 v2, Below w.heap.size w w' → RdEx w' l[k] v0 v1 v2 →
      Calls Try.prog 78 #[.agg #[v0, v1, v2], ptr] w' fun e' w'' => e' = .returned (.bool (p l[k])) ∧ Below w'.heap.size w' w'') :
    Calls Try.prog 79 #[.slice a l.length cap, .func (.func 78) #[] #[ptr]] w fun e' w' => e' = .returned (.int .i64 (findS p l 0)) ∧ Below w.heap.size w w' := by
  have HX := hid hx; clear hx
  have HP := hid hp; clear hp
  go_enter Try.func79, Try.ntmps79
  go_wp2_with fail
  go_loopw [8] (fun i wr => ∃ k : Nat, k ≤ l.length ∧ i = .int .i64 k ∧ Hid (findS p l 0 = findS p (l.drop k) k) ∧ Below w.heap.size w wr) (fun i _ => l.length - (intOf i).toNat)
  case atStart => exact ⟨0, Nat.zero_le _, rfl, rfl, ext_refl _⟩
  case round =>
    obtain ⟨k, hk, rfl, HF, hb⟩ := hrel
    by_cases hlt : k < l.length
    · obtain ⟨b, off, rfl, hrd⟩ := HX.out (by intro h; subst h; simp at hlt)
      obtain ⟨a', cap', c0, c1, c2, hx⟩ := hrd.get' k hlt
      have d0 := later hb c0
      have d1 := later hb c1
      have d2 := later hb c2
      have HY := hid (hx.below hb)
      have HD := hid (findS_drop p l k hlt)
      clear hx c0 c1 c2 hrd
      go_wp2_with fail
      refine (HP.out k hlt _ _ _ _ hb HY.out).mono ?_
      rintro e w1 ⟨rfl, hb1⟩
      cases hpk : p l[k]
      · have HPK := hid hpk; clear hpk
        go_wp2_with fail
        go_roundw
        case rel => exact ⟨k + 1, hlt, by go_num, hid (by rw [HF.out, HD.out, HPK.out]; simp), ext_trans hb hb1⟩
        case measure => simp [intOf]; omega
      · have HPK := hid hpk; clear hpk
        go_wp2_with fail
        go_ret
        exact ⟨ret_int (by rw [HF.out, HD.out, HPK.out]; simp), ext_trans hb hb1⟩
    · obtain rfl : k = l.length := by omega
      go_wp2_with fail
      go_ret
      exact ⟨ret_int (by rw [HF.out]; simp [findS]), hb⟩

set_option maxRecDepth 100000 in
set_option maxHeartbeats 4000000 in
theorem contains_any (l : List Ex) (p : Ex → Bool) (w : World) (a : Option Addr) (cap : Nat) (ptr : Value) (hlen : l.length ≤ 9223372036854775807)
    (hx : l ≠ [] → ∃ b off, a = some ⟨b, off, none⟩ ∧ RdExs w b off l)
    (hp : ∀ k (h : k < l.length) w' v0 v1 v2, Below w.heap.size w w' → RdEx w' l[k] v0 v1 v2 →
      Calls Try.prog 78 #[.agg #[v0, v1, v2], ptr] w' fun e' w'' => e' = .returned (.bool (p l[k])) ∧ Below w'.heap.size w' w'') :
    Calls Try.prog 77 #[.slice a l.length cap, .func (.func 78) #[] #[ptr]] w fun e' w' => e' = .returned (.bool (l.any p)) ∧ Below w.heap.size w w' := by
  have H := hid (index_any l p w a cap ptr hlen hx hp); clear hx hp
  have HF := hid (findS_any p l 0)
  go_enter Try.func77, Try.ntmps77
  go_wp2_with fail
  refine H.out.mono ?_
  rintro e w1 ⟨rfl, hb1⟩
  generalize findS p l 0 = r at *
  go_wp2_with fail
  go_ret
  exact ⟨ret_bool HF.out, hb1⟩

set_option maxRecDepth 100000 in
set_option maxHeartbeats 4000000 in
theorem below_any (s : Nat) : ∀ (e : Ex) (n : Int) (w : World) (v0 v1 v2 : Value), sizeE e ≤ s → RdEx w e v0 v1 v2 →
    Calls Try.prog 75 #[.agg #[v0, v1, v2], .int .i64 n] w fun e' w' => e' = .returned (.bool (belowS n e)) ∧ Below w.heap.size w w' := by
  induction s with
  | zero => intro e n w v0 v1 v2 h; have := sizeE_pos e; omega
  | succ s ih =>
  intro e n w v0 v1 v2 hs hr
  cases e with | mk op m args =>
  have hr0 := hr
  unfold RdEx at hr
  obtain ⟨rfl, rfl, -, -, a, cap, rfl, hlen, hx⟩ := hr
  simp only [sizeE] at hs
  -- the closure: its number n stands in the cell that it holds
  have hclo : ∀ (l : List Ex) (w' : World) (k : Nat) (h : k < l.length) (b : Nat) (v0 v1 v2 : Value), sizeL l ≤ s → w'.cell? ⟨b, 0, none⟩ = some (.int .i64 n) → RdEx w' l[k] v0 v1 v2 →
      Calls Try.prog 78 #[.agg #[v0, v1, v2], .pointer (some ⟨b, 0, none⟩)] w' fun e' w'' => e' = .returned (.bool (!belowS n l[k])) ∧ Below w'.heap.size w' w'' := by
    intro l w' k h b v0 v1 v2 hsl hc hrk
    have hk := sizeL_get_le l k h
    have H := hid (ih l[k] n (w'.alloc (.cells #[v0, v1, v2] 89)) v0 v1 v2 (by omega) (hrk.below (ext_alloc (ext_refl _) _)))
    have hlt := lt_of_cell hc
    obtain ⟨a, cap, rfl, rfl, rfl⟩ := hrk.shape
    clear hrk ih hs hx hr0
    go_enter Try.func78, Try.ntmps78
    go_wp2_with fail
    refine H.out.mono ?_
    rintro e w1 ⟨rfl, hb1⟩
    go_wp2_with fail
    go_ret
    exact ⟨rfl, ext_trans (ext_alloc (ext_refl _) _) hb1⟩
  by_cases c : op = 3 ∧ n ≤ m
  · obtain ⟨rfl, c⟩ := c
    clear hx hclo ih
    go_enter Try.func75, Try.ntmps75
    go_wp2_with fail
    go_ret
    exact ⟨ret_bool (by simp [belowS, c]), ext_alloc (ext_alloc (ext_refl _) _) _⟩
  · have hw : belowS n (.mk op m args) = !args.any (fun e => !belowS n e) := by
      rw [← belowL_any]; simp only [belowS]
      have : (decide (op = 3) && decide (n ≤ m)) = false := by simp; omega
      simp [this]
    rw [hw]
    have hA : Below w.heap.size w ((w.alloc (.cells #[.int .u8 op, .int .i64 m, .slice a args.length cap] 89)).alloc (.cells #[.int .i64 n] 3)) := ext_alloc (ext_alloc (ext_refl _) _) _
    have H := hid (contains_any args (fun e => !belowS n e) _ a cap (.pointer (some ⟨w.heap.size + 1, 0, none⟩)) hlen
      (fun hne => by obtain ⟨b, off, h1, h2⟩ := hx hne; exact ⟨b, off, h1, RdExs.below hA _ h2⟩)
      (fun k h w' v0 v1 v2 hb hr => hclo args w' k h _ v0 v1 v2 (by omega) (later hb (by simp)) hr))
    clear hclo hx hw hA ih hr0
    by_cases c1 : op = 3
    · subst c1
      have c2 : m < n := by omega
      go_enter Try.func75, Try.ntmps75
      go_wp2_with fail
      refine H.out.mono ?_
      rintro e w1 ⟨rfl, hb1⟩
      go_wp2_with fail
      go_ret
      exact ⟨rfl, ext_trans (ext_alloc (ext_alloc (ext_refl _) _) _) hb1⟩
    · have c2 : (op == 3) = false := by rw [beq_eq_false_iff_ne]; omega
      go_enter Try.func75, Try.ntmps75
      go_wp2_with fail
      refine H.out.mono ?_
      rintro e w1 ⟨rfl, hb1⟩
      go_wp2_with fail
      go_ret
      exact ⟨rfl, ext_trans (ext_alloc (ext_alloc (ext_refl _) _) _) hb1⟩
end Go.Proofs.Ytaklfjjkeebheaa
/-
  Walks: the document's below, May on both sides, Variable on both sides, at.
-/
namespace Go.Proofs.Ytaklfjjkeebheaa
set_option linter.unusedVariables false
open Go Go.RowKit

theorem belowL_drop (n : Int) (l : List Ex) (k : Nat) (h : k < l.length) : belowL n (l.drop k) = (belowS n l[k] && belowL n (l.drop (k + 1))) := by
  rw [List.drop_eq_getElem_cons h]; rfl

set_option maxRecDepth 100000 in
set_option maxHeartbeats 4000000 in
theorem may_any (e : Ex) (n : Int) (w : World) (v0 v1 v2 : Value) (h : RdEx w e v0 v1 v2) :
    Calls Try.prog 69 #[.agg #[v0, v1, v2], .int .i64 n] w fun e' w' => e' = .returned (.bool (mayS e n)) ∧ Below w.heap.size w w' := by
  have HR := hid h
  obtain ⟨a, cap, rfl, rfl, rfl⟩ := h.shape
  clear h
  unfold mayS
  go_enter Try.func69, Try.ntmps69
  go_wp2_with fail
  refine (Whole_any e _ _ _ _ (HR.out.below ?_)).mono ?_
  · exact ext_alloc (ext_refl _) _
  rintro e' w1 ⟨rfl, hb1⟩
  have hc := bcell hb1
  cases hpk : wholeS 6 e
  · have HPK := hid hpk; clear hpk
    go_wp2_with fail
    go_ret
    exact ⟨ret_bool (by rw [HPK.out]; simp), ext_trans (ext_alloc (ext_refl _) _) hb1⟩
  · have HPK := hid hpk; clear hpk
    go_wp2_with fail
    refine (below_any (sizeE e) e n _ _ _ _ (Nat.le_refl _) (HR.out.below ?_)).mono ?_
    · exact ext_trans (ext_alloc (ext_refl _) _) hb1
    rintro e' w2 ⟨rfl, hb2⟩
    go_wp2_with fail
    go_ret
    exact ⟨ret_bool (by rw [HPK.out]; simp), ext_trans (ext_trans (ext_alloc (ext_refl _) _) hb1) hb2⟩

end Go.Proofs.Ytaklfjjkeebheaa
