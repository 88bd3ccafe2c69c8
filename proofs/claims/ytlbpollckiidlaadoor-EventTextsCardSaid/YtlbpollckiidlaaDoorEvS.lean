/-
  Walk: event.Stripe (and slices.Contains at its five Kinds).
-/
import Derived.Test.YtlbpollckiidlaaDoorShE
import Derived.Test.YtlbpollckiidlaaDoorKit
namespace Go.Proofs.YtlbpollckiidlaaDoor
set_option linter.unusedVariables false
set_option linter.unusedSimpArgs false
open Go Go.RowKit
def stripeKinds : List Int := [2, 4, 6, 9, 11]
set_option maxRecDepth 100000 in
set_option maxHeartbeats 4000000 in
theorem index_any (k : Int) (b : Nat) (w : World) (hB : Blk w b #[.int .u8 2, .int .u8 4, .int .u8 6, .int .u8 9, .int .u8 11] 5) :
    Calls Tryd.prog 46 #[.slice (some ⟨b, 0, none⟩) 5 5, .int .u8 k] w fun e w' => (∃ r : Int, e = .returned (.int .i64 r) ∧ decide (0 ≤ r) = decide (k ∈ stripeKinds)) ∧ w = w' := by
  have HB := hid hB
  clear hB
  go_enter Tryd.func46, Tryd.ntmps46
  go_wp2_with fail
  go_loopw [8] (fun x wr => ∃ n : Nat, n ≤ 5 ∧ x = .int .i64 (n : Int) ∧ w = wr ∧ ∀ j, j < n → stripeKinds[j]? ≠ some k) (fun x _ => 5 - (intOf x).toNat)
  case atStart => exact ⟨0, by omega, rfl, rfl, fun j hj => by omega⟩
  case round =>
    obtain ⟨n, h1, rfl, rfl, hj⟩ := hrel
    have HJ := hid hj
    clear hj
    by_cases hlt : n < 5
    · obtain ⟨y, hy⟩ : ∃ y, stripeKinds[n]? = some y := ⟨_, List.getElem?_eq_getElem (by exact hlt)⟩
      have c0 := HB.out.cell (n) (v := .int .u8 y) (by
        have : n = 0 ∨ n = 1 ∨ n = 2 ∨ n = 3 ∨ n = 4 := by omega
        unfold stripeKinds at hy
        rcases this with rfl | rfl | rfl | rfl | rfl <;> simp at hy <;> subst hy <;> rfl)
      have j1 : decide ((n : Int) < 5) = true := by rw [decide_eq_true_iff]; omega
      have j2 : (0 : Int) ≤ (n : Int) := by omega
      have j3 : (n : Int) < 5 := by omega
      have j4 : wrap64 ((n : Int) + 1) = (n : Int) + 1 := by unfold wrap64; omega
      have HLT := hid hlt
      have HY := hid hy
      clear hlt hy h1
      by_cases hk : k = y
      · have k1 : decide (k = y) = true := decide_eq_true hk
        go_wp2_with fail
        go_ret
        refine ⟨⟨n, rfl, ?_⟩, rfl⟩
        rw [decide_eq_true j2, hk]
        exact (decide_eq_true (List.mem_of_getElem? HY.out)).symm
      · have k1 : decide (k = y) = false := decide_eq_false hk
        go_wp2_with fail
        go_roundw
        case rel => exact ⟨n + 1, by have := HLT.out; omega, by simp, trivial, fun j hj => by
          by_cases hjn : j = n
          · subst hjn; rw [HY.out]; intro h; exact hk (Option.some.inj h).symm
          · exact HJ.out j (by omega)⟩
        case measure => have := HLT.out; simp [intOf]; omega
    · obtain rfl : n = 5 := by omega
      clear hlt h1
      go_wp2_with fail
      go_ret
      refine ⟨⟨-1, rfl, ?_⟩, rfl⟩
      rw [decide_eq_false (by omega)]
      refine (decide_eq_false fun hm => ?_).symm
      obtain ⟨j, hj, he⟩ := List.getElem_of_mem hm
      exact HJ.out j hj (by rw [List.getElem?_eq_getElem hj, he])
set_option maxRecDepth 100000 in
set_option maxHeartbeats 4000000 in
theorem contains_any (k : Int) (b : Nat) (w : World) (hB : Blk w b #[.int .u8 2, .int .u8 4, .int .u8 6, .int .u8 9, .int .u8 11] 5) :
    Calls Tryd.prog 35 #[.slice (some ⟨b, 0, none⟩) 5 5, .int .u8 k] w fun e w' => e = .returned (.bool (decide (k ∈ stripeKinds))) ∧ w = w' := by
  have H := hid (index_any k b w hB)
  clear hB
  go_enter Tryd.func35, Tryd.ntmps35
  go_wp2_with fail
  refine H.out.mono ?_
  rintro e' w' ⟨⟨r, rfl, hr⟩, rfl⟩
  have k1 : decide (r ≥ 0) = decide (k ∈ stripeKinds) := hr
  clear hr
  go_wp2_with fail
  go_ret
  exact ⟨rfl, rfl⟩
def stripeP (e : Ev) (S : Int) : Int × Bool :=
  if S < 1 ∨ e.at_ < 0 then (0, false) else if e.kind = 3 ∨ e.kind = 8 then (e.at_.tmod S, true) else if e.kind ∈ stripeKinds ∨ (e.kind = 10 ∧ e.why ≠ 6) then (e.at_, true) else (0, false)
def StripeP (e : Ev) (S : Int) (w : World) (e' : Ending) (w' : World) : Prop := e' = .returned (.tuple #[.int .i64 (stripeP e S).1, .bool (stripeP e S).2]) ∧ Below w.heap.size w w'
set_option maxRecDepth 100000 in
set_option maxHeartbeats 4000000 in
theorem stripe_any (e : Ev) (S : Int) (w : World) (he : EvOk e) (hS : -9223372036854775808 ≤ S ∧ S ≤ 9223372036854775807) :
    Calls Tryd.prog 18 #[evA e, .int .i64 S] w (StripeP e S w) := by
  obtain ⟨kind, th, tx, at_, v, x, why⟩ := e
  unfold StripeP
  dsimp only [evA]
  generalize hr : stripeP ⟨kind, th, tx, at_, v, x, why⟩ S = r
  unfold stripeP at hr
  dsimp only at hr
  have HB : Hid (Below w.heap.size w (w.alloc (.cells #[.int .u8 kind, .int .i64 th, .int .i64 tx, .int .i64 at_, .int .i64 v, .int .i64 x, .int .u8 why] 23))) := hid (ext_alloc (ext_refl _) _)
  by_cases h1 : S < 1
  · rw [if_pos (Or.inl h1)] at hr
    subst hr
    have j1 : decide (S < 1) = true := decide_eq_true h1
    clear he hS h1
    go_enter Tryd.func18, Tryd.ntmps18
    go_wp2_with fail
    go_ret2
    exact ⟨rfl, HB.out⟩
  have j1 : decide (S < 1) = false := decide_eq_false h1
  by_cases h2 : at_ < 0
  · rw [if_pos (Or.inr h2)] at hr
    subst hr
    have j2 : decide (at_ < 0) = true := decide_eq_true h2
    clear he hS h1 h2
    go_enter Tryd.func18, Tryd.ntmps18
    go_wp2_with fail
    go_ret2
    exact ⟨rfl, HB.out⟩
  have j2 : decide (at_ < 0) = false := decide_eq_false h2
  rw [if_neg (by omega)] at hr
  by_cases h3 : kind = 3 ∨ kind = 8
  · rw [if_pos h3] at hr
    have j3 : ¬ S = 0 := by omega
    have j4 : wrap64 (at_.tmod S) = at_.tmod S := by
      have : 0 ≤ at_ := by omega
      rw [Int.tmod_eq_emod_of_nonneg this]
      have h4 := Int.emod_nonneg at_ (by omega : S ≠ 0)
      have h5 := Int.emod_lt_of_pos at_ (by omega : 0 < S)
      unfold wrap64
      omega
    subst hr
    clear he hS h1 h2
    by_cases h4 : kind = 3
    · subst h4
      go_enter Tryd.func18, Tryd.ntmps18
      go_wp2_with fail
      go_ret2
      exact ⟨rfl, HB.out⟩
    · obtain rfl : kind = 8 := by omega
      clear h3 h4
      go_enter Tryd.func18, Tryd.ntmps18
      go_wp2_with fail
      go_ret2
      exact ⟨rfl, HB.out⟩
  rw [if_neg h3] at hr
  have j3 : (kind == 3) = false := beq_eq_false_iff_ne.2 (by omega)
  have j4 : (kind == 8) = false := beq_eq_false_iff_ne.2 (by omega)
  have HC := hid (fun b W hB => contains_any kind b W hB)
  clear he hS h1 h2 h3
  have HB2 := hid (ext_alloc HB.out (.cells #[.int .u8 2, .int .u8 4, .int .u8 6, .int .u8 9, .int .u8 11] 5))
  have HC2 := hid (HC.out (w.heap.size + 1) ((w.alloc (.cells #[.int .u8 kind, .int .i64 th, .int .i64 tx, .int .i64 at_, .int .i64 v, .int .i64 x, .int .u8 why] 23)).alloc (.cells #[.int .u8 2, .int .u8 4, .int .u8 6, .int .u8 9, .int .u8 11] 5)) (Blk.new' _ _ _ (Array.size_push ..).symm))
  by_cases h5 : kind ∈ stripeKinds
  · rw [if_pos (Or.inl h5)] at hr
    subst hr
    rw [decide_eq_true h5] at HC2
    clear h5 HC
    go_enter Tryd.func18, Tryd.ntmps18
    go_wp2_with fail
    refine HC2.out.mono ?_
    rintro e' w' ⟨rfl, rfl⟩
    go_wp2_with fail
    go_ret2
    exact ⟨rfl, HB2.out⟩
  rw [decide_eq_false h5] at HC2
  by_cases h6 : kind = 10
  · subst h6
    by_cases h7 : why = 6
    · rw [if_neg (by simp [h5, h7])] at hr
      subst hr
      subst h7
      clear h5 HC
      go_enter Tryd.func18, Tryd.ntmps18
      go_wp2_with fail
      refine HC2.out.mono ?_
      rintro e' w' ⟨rfl, rfl⟩
      go_wp2_with fail
      go_ret2
      exact ⟨rfl, HB2.out⟩
    · rw [if_pos (Or.inr ⟨rfl, h7⟩)] at hr
      subst hr
      clear h5 HC
      go_enter Tryd.func18, Tryd.ntmps18
      go_wp2_with fail
      refine HC2.out.mono ?_
      rintro e' w' ⟨rfl, rfl⟩
      go_wp2_with fail
      go_ret2
      exact ⟨rfl, HB2.out⟩
  · rw [if_neg (by simp [h5, h6])] at hr
    subst hr
    have j5 : (kind == 10) = false := beq_eq_false_iff_ne.2 h6
    clear h5 h6 HC
    go_enter Tryd.func18, Tryd.ntmps18
    go_wp2_with fail
    refine HC2.out.mono ?_
    rintro e' w' ⟨rfl, rfl⟩
    go_wp2_with fail
    go_ret2
    exact ⟨rfl, HB2.out⟩
end Go.Proofs.YtlbpollckiidlaaDoor
