/-
  Walks: how large an expression is (much, large); the law ExprParts.
-/
import Derived.Test.YtonckpblbdopmaaDoorExAw
namespace Go.Proofs.YtonckpblbdopmaaDoor
set_option linter.unusedVariables false
open Go Go.RowKit

mutual
def muchS (deep : Nat) : Ex → Nat × Bool
  | .mk _ _ args => if 30 < deep ∨ 10 < args.length then (0, true) else muchL (deep + 1) 1 args
def muchL (deep n : Nat) : List Ex → Nat × Bool
  | [] => (n, false)
  | x :: xs => if (muchS deep x).2 = true ∨ 400 < n + (muchS deep x).1 then (0, true) else muchL deep (n + (muchS deep x).1) xs
end
mutual
theorem muchS_le (deep : Nat) : ∀ e, (muchS deep e).1 ≤ 400
  | .mk _ _ args => by
    simp only [muchS]
    split
    · simp
    · exact muchL_le (deep + 1) 1 (by omega) args
theorem muchL_le (deep n : Nat) (h : n ≤ 400) : ∀ l, (muchL deep n l).1 ≤ 400
  | [] => by simpa [muchL] using h
  | x :: xs => by
    simp only [muchL]
    split
    · simp
    · exact muchL_le deep _ (by omega) xs
end
mutual
theorem muchS_size (deep : Nat) : ∀ e, (muchS deep e).2 = false → (muchS deep e).1 = sizeE e
  | .mk _ _ args, h => by
    simp only [muchS, sizeE] at h ⊢
    split at h
    · simp at h
    · rename_i hh
      rw [if_neg hh]
      exact muchL_size (deep + 1) 1 args h
theorem muchL_size (deep n : Nat) : ∀ l, (muchL deep n l).2 = false → (muchL deep n l).1 = n + sizeL l
  | [], _ => by simp [muchL, sizeL]
  | x :: xs, h => by
    simp only [muchL, sizeL] at h ⊢
    split at h
    · simp at h
    · rename_i hh
      rw [if_neg hh, muchL_size deep _ xs h]
      have := muchS_size deep x (by simp only [not_or, Bool.not_eq_true] at hh; exact hh.1)
      omega
end
theorem muchL_drop (deep n : Nat) (l : List Ex) (k : Nat) (h : k < l.length) : muchL deep n (l.drop k) =
    if (muchS deep l[k]).2 = true ∨ 400 < n + (muchS deep l[k]).1 then (0, true) else muchL deep (n + (muchS deep l[k]).1) (l.drop (k + 1)) := by
  rw [List.drop_eq_getElem_cons h]; rfl
def largeS (e : Ex) : Bool := (muchS 0 e).2
theorem largeS_size {e : Ex} (h : largeS e = false) : sizeE e ≤ 400 := by
  have h1 := muchS_size 0 e h
  have h2 := muchS_le 0 e
  omega

theorem ret_ib {k : IntKind} {a b : Int} {c d : Bool} (h : a = b) (h' : c = d) : Ending.returned (.tuple #[.int k a, .bool c]) = .returned (.tuple #[.int k b, .bool d]) := by rw [h, h']

set_option maxRecDepth 100000 in
set_option maxHeartbeats 4000000 in
theorem much_any (s : Nat) : ∀ (e : Ex) (deep : Nat) (w : World) (v0 v1 v2 : Value), sizeE e ≤ s → deep ≤ 31 → RdEx w e v0 v1 v2 →
    Calls Tryd.prog 34 #[.agg #[v0, v1, v2], .int .i64 deep] w fun e' w' => e' = .returned (.tuple #[.int .i64 (muchS deep e).1, .bool (muchS deep e).2]) ∧ Below w.heap.size w w' := by
  induction s with
  | zero => intro e deep w v0 v1 v2 h; have := sizeE_pos e; omega
  | succ s ih =>
  intro e deep w v0 v1 v2 hs hd hr
  cases e with | mk op n args =>
  unfold RdEx at hr
  obtain ⟨rfl, rfl, -, -, a, cap, rfl, hlen, hx⟩ := hr
  simp only [sizeE] at hs
  by_cases h1 : 30 < deep
  · have hm : muchS deep (.mk op n args) = (0, true) := by simp only [muchS]; rw [if_pos (.inl h1)]
    rw [hm]
    clear hm ih hx
    go_enter Tryd.func34, Tryd.ntmps34
    go_wp2_with fail
    go_ret2
    exact ⟨rfl, ext_alloc (ext_refl _) _⟩
  by_cases h2 : 10 < args.length
  · have hm : muchS deep (.mk op n args) = (0, true) := by simp only [muchS]; rw [if_pos (.inr h2)]
    rw [hm]
    clear hm ih hx
    go_enter Tryd.func34, Tryd.ntmps34
    go_wp2_with fail
    go_ret2
    exact ⟨rfl, ext_alloc (ext_refl _) _⟩
  have hm : muchS deep (.mk op n args) = muchL (deep + 1) 1 args := by simp only [muchS]; rw [if_neg (by omega)]
  rw [hm]
  generalize hres : muchL (deep + 1) 1 args = res
  obtain ⟨R1, R2⟩ := res
  have HRES := hid hres
  have HX := hid hx
  have IH := hid ih
  clear hm ih hx hres
  dsimp only
  go_enter Tryd.func34, Tryd.ntmps34
  go_wp2_with fail
  go_loopw [6, 7] (fun m i wr => ∃ k c : Nat, k ≤ args.length ∧ c ≤ 400 ∧ i = .int .i64 k ∧ m = .int .i64 c ∧ Hid (muchL (deep + 1) c (args.drop k) = (R1, R2)) ∧ wr.cell? ⟨w.heap.size, 2, none⟩ = some (.slice a args.length cap) ∧ Below w.heap.size w wr) (fun _ i _ => args.length - (intOf i).toNat)
  case atStart => exact ⟨0, 1, Nat.zero_le _, by omega, rfl, rfl, HRES, by simp, ext_alloc (ext_refl _) _⟩
  case round =>
    obtain ⟨k, c, hk, hc, rfl, rfl, HK, hcb, hb⟩ := hrel
    by_cases hlt : k < args.length
    · obtain ⟨b, off, rfl, hrd⟩ := HX.out (by intro h; subst h; simp at hlt)
      obtain ⟨a', cap', e0, e1, e2, hx⟩ := hrd.get' k hlt
      have d0 := later hb e0
      have d1 := later hb e1
      have d2 := later hb e2
      have HY := hid (hx.below hb)
      have hle := sizeL_get_le args k hlt
      have HK2 := muchL_drop (deep + 1) c args k hlt
      rw [HK.out] at HK2
      have HC := IH.out args[k] (deep + 1) wr _ _ _ (by omega) (by omega) HY.out
      have hm4 := muchS_le (deep + 1) args[k]
      generalize muchS (deep + 1) args[k] = q at *
      obtain ⟨q1, q2⟩ := q
      simp only at hm4
      have HC := hid HC
      have HK2 := hid HK2
      clear hx e0 e1 e2 hrd hle
      cases q2
      · by_cases hq : 400 < c + q1
        · have HR := hid (show (R1, R2) = ((0 : Nat), true) by rw [HK2.out, if_pos (.inr hq)])
          go_wp2_with fail
          refine HC.out.mono ?_
          rintro e' w1 ⟨rfl, hb1⟩
          go_wp2_with fail
          go_ret2
          exact ⟨ret_ib (by have := congrArg Prod.fst HR.out; simp at this; omega) (by have := congrArg Prod.snd HR.out; simp at this; simp [this]), ext_trans hb hb1⟩
        · have HR := hid (show muchL (deep + 1) (c + q1) (args.drop (k + 1)) = (R1, R2) by rw [HK2.out, if_neg (by simp; omega)])
          go_wp2_with fail
          refine HC.out.mono ?_
          rintro e' w1 ⟨rfl, hb1⟩
          go_wp2_with fail
          go_roundw
          case rel => exact ⟨k + 1, c + q1, hlt, by omega, by go_num, by go_num, HR, later hb1 hcb, ext_trans hb hb1⟩
          case measure => simp [intOf]; omega
      · have HR := hid (show (R1, R2) = ((0 : Nat), true) by rw [HK2.out, if_pos (.inl rfl)])
        go_wp2_with fail
        refine HC.out.mono ?_
        rintro e' w1 ⟨rfl, hb1⟩
        go_wp2_with fail
        go_ret2
        exact ⟨ret_ib (by have := congrArg Prod.fst HR.out; simp at this; omega) (by have := congrArg Prod.snd HR.out; simp at this; simp [this]), ext_trans hb hb1⟩
    · obtain rfl : k = args.length := by omega
      have HR := hid (show (c, false) = (R1, R2) by rw [← HK.out]; simp [muchL])
      go_wp2_with fail
      go_ret2
      exact ⟨ret_ib (by have := congrArg Prod.fst HR.out; simp at this; omega) (by have := congrArg Prod.snd HR.out; simp at this; simp [this]), hb⟩

set_option maxRecDepth 100000 in
set_option maxHeartbeats 4000000 in
theorem large_any (e : Ex) (w : World) (v0 v1 v2 : Value) (hr : RdEx w e v0 v1 v2) :
    Calls Tryd.prog 21 #[.agg #[v0, v1, v2]] w fun e' w' => e' = .returned (.bool (largeS e)) ∧ Below w.heap.size w w' := by
  have H := much_any (sizeE e) e 0 (w.alloc (.cells #[v0, v1, v2] 29)) v0 v1 v2 (Nat.le_refl _) (by decide) (hr.below (ext_alloc (ext_refl _) _))
  obtain ⟨a, cap, rfl, rfl, rfl⟩ := hr.shape
  unfold largeS
  generalize muchS 0 e = q at *
  obtain ⟨q1, q2⟩ := q
  have H := hid H
  clear hr
  go_enter Tryd.func21, Tryd.ntmps21
  go_wp2_with fail
  refine H.out.mono ?_
  rintro e' w1 ⟨rfl, hb1⟩
  go_wp2_with fail
  go_ret
  exact ⟨rfl, ext_trans (ext_alloc (ext_refl _) _) hb1⟩
end Go.Proofs.YtonckpblbdopmaaDoor
