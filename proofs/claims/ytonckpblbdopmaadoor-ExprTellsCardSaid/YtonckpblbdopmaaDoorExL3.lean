/-
  The law ExprParts, walked.
-/
import Derived.Test.YtonckpblbdopmaaDoorExL2
namespace Go.Proofs.YtonckpblbdopmaaDoor
set_option linter.unusedVariables false
open Go Go.RowKit

theorem wholeS_succ : ∀ (m : Nat) (e : Ex), wholeS m e = true → wholeS (m + 1) e = true := by
  intro m
  induction m with
  | zero => intro e h; simp [wholeS] at h
  | succ m ih =>
    intro e h
    cases e with | mk op n args =>
    rcases whole_cases h with ⟨rfl, rfl⟩ | ⟨rfl, rfl, h0, h1⟩ | ⟨rfl, rfl, h0, h1⟩ | ⟨h1, h2, rfl, x, y, rfl, hx, hy⟩
    · rfl
    · simp [wholeS, h0, h1]
    · simp [wholeS, h0, h1]
    · rw [wholeS_two h1 h2, ih x hx, ih y hy]; rfl
theorem belowL_get {n : Int} {l : List Ex} (h : belowL n l = true) (k : Nat) (hk : k < l.length) : belowS n l[k] = true := by
  induction l generalizing k with
  | nil => simp at hk
  | cons x xs ih =>
    simp only [belowL, Bool.and_eq_true] at h
    cases k with
    | zero => exact h.1
    | succ k => exact ih h.2 k (by simpa using hk)
theorem mayS_part {op m n : Int} {args : List Ex} (h : mayS (.mk op m args) n = true) (k : Nat) (hk : k < args.length) : mayS args[k] n = true := by
  simp only [mayS, Bool.and_eq_true] at h ⊢
  obtain ⟨hw, hb⟩ := h
  simp only [belowS, Bool.and_eq_true] at hb
  refine ⟨?_, belowL_get hb.2 k hk⟩
  rcases whole_cases hw with ⟨rfl, rfl⟩ | ⟨rfl, rfl, h0, h1⟩ | ⟨rfl, rfl, h0, h1⟩ | ⟨h1, h2, rfl, x, y, rfl, hx, hy⟩
  · simp at hk
  · simp at hk
  · simp at hk
  · match k, hk with
    | 0, _ => exact wholeS_succ 5 x hx
    | 1, _ => exact wholeS_succ 5 y hy
mutual
theorem belowS_mono {n m : Int} (h : n ≤ m) : ∀ e, belowS n e = true → belowS m e = true
  | .mk op k args, hb => by
    simp only [belowS, Bool.and_eq_true] at hb ⊢
    refine ⟨?_, belowL_mono h args hb.2⟩
    have := hb.1
    simp at this ⊢
    omega
theorem belowL_mono {n m : Int} (h : n ≤ m) : ∀ l, belowL n l = true → belowL m l = true
  | [], _ => rfl
  | x :: xs, hb => by
    simp only [belowL, Bool.and_eq_true] at hb ⊢
    exact ⟨belowS_mono h x hb.1, belowL_mono h xs hb.2⟩
end
theorem mayS_mono {n m : Int} (h : n ≤ m) {e : Ex} (hm : mayS e n = true) : mayS e m = true := by
  simp only [mayS, Bool.and_eq_true] at hm ⊢
  exact ⟨hm.1, belowS_mono h e hm.2⟩

theorem may_is {e : Ex} {n : Int} {b : Bool} (hb : mayS e n = b) : ∀ w v0 v1 v2, RdEx w e v0 v1 v2 →
    Calls Tryd.prog 17 #[.agg #[v0, v1, v2], .int .i64 n] w fun e' w' => e' = .returned (.bool b) ∧ Below w.heap.size w w' := by
  subst hb; exact fun w v0 v1 v2 h => may_any e n w v0 v1 v2 h
theorem count_is {e : Ex} (h : sizeE e ≤ 1000000) : ∀ w v0 v1 v2, RdEx w e v0 v1 v2 →
    Calls Tryd.prog 22 #[.agg #[v0, v1, v2]] w fun e' w' => e' = .returned (.int .i64 (sizeE e)) ∧ Below w.heap.size w w' :=
  fun w v0 v1 v2 hr => count_any (sizeE e) e w v0 v1 v2 (Nat.le_refl _) hr h

set_option maxRecDepth 100000 in
set_option maxHeartbeats 4000000 in
theorem exprParts_walk (e : Ex) (n more : Int) (w : World) (v0 v1 v2 : Value) (hr : RdEx w e v0 v1 v2) (ho : OpsAt w) :
    Calls Tryd.prog 7 #[.agg #[v0, v1, v2], .int .i64 n, .int .i64 more] w fun e' w' => e' = .returned (.bool true) ∧ Below w.heap.size w w' := by
  have HR := hid hr
  cases e with | mk op m args =>
  unfold RdEx at hr
  obtain ⟨rfl, rfl, -, -, a, cap, rfl, hlen, hx⟩ := hr
  have HX := hid hx
  have HO := hid ho
  have hA := ext_alloc (ext_refl w) (.cells #[.int .u8 op, .int .i64 m, .slice a args.length cap] 29)
  have hbk : Blk (w.alloc (.cells #[.int .u8 op, .int .i64 m, .slice a args.length cap] 29)) w.heap.size #[.int .u8 op, .int .i64 m, .slice a args.length cap] 29 := Blk.new _ _ _
  have HBK := hid hbk
  clear hx ho hbk
  have HLG := large_any (.mk op m args) _ _ _ _ (HR.out.below hA)
  cases hl : largeS (.mk op m args)
  · -- not large
    rw [hl] at HLG
    have HLG := hid HLG
    have hsz := largeS_size hl
    simp only [sizeE] at hsz
    have HCT := hid (count_is (e := .mk op m args) (by simp only [sizeE]; omega))
    have hsum : sizeE (.mk op m args) = 1 + sizeL args := rfl
    rw [hsum] at HCT
    clear hl hsum
    cases hm : mayS (.mk op m args) n
    all_goals
      have HM := hid (may_is hm)
      go_enter Tryd.func7, Tryd.ntmps7
    · -- it may not be
      clear hm
      go_wp2_with fail
      refine HLG.out.mono ?_
      rintro e' w1 ⟨rfl, hb1⟩
      have hE := ext_trans hA hb1
      have hB1 := hid (HBK.out.below hb1)
      clear hA
      go_wp2_with fail
      refine (awake_any _ (HO.out.below hE)).mono ?_
      rintro e' w2 ⟨rfl, hb2⟩
      have hE2 := ext_trans hE hb2
      have hB2 := hid (hB1.out.below hb2)
      clear hE hb1 hb2 hB1
      go_wp2_with fail
      go_loopw [7, 8] (fun c i wr => ∃ k : Nat, k ≤ args.length ∧ i = .int .i64 k ∧ c = .int .i64 (1 + sizeL (args.take k) : Nat) ∧ Hid (Blk wr w.heap.size #[.int .u8 op, .int .i64 m, .slice a args.length cap] 29) ∧ Below w.heap.size w wr) (fun _ i _ => args.length - (intOf i).toNat)
      case atStart => exact ⟨0, Nat.zero_le _, rfl, by simp [sizeL], hB2, hE2⟩
      case round =>
        obtain ⟨k, hk, rfl, rfl, HB, hb⟩ := hrel
        have q0 := HB.out.cell 0 rfl
        have q1 := HB.out.cell 1 rfl
        have q2 := HB.out.cell 2 rfl
        by_cases hlt : k < args.length
        · obtain ⟨b, off, rfl, hrd⟩ := HX.out (by intro h; subst h; simp at hlt)
          obtain ⟨a', cap', e0, e1, e2, hx⟩ := hrd.get' k hlt
          have d0 := later hb e0
          have d1 := later hb e1
          have d2 := later hb e2
          have HY := hid (hx.below hb)
          have hle := sizeL_get_le args k hlt
          have hts := sizeL_take_succ args k hlt
          have htl := sizeL_take_le args (k+1)
          have HTS := hid hts
          have hb1 : sizeL (List.take k args) + sizeE args[k] ≤ 1000000 := by omega
          have hb3 : sizeE args[k] ≤ 1000000 := by omega
          have HC := hid (count_is hb3)
          clear hx hts htl hle e0 e1 e2 hrd
          go_wp2_with fail
          refine (HC.out _ _ _ _ HY.out).mono ?_
          rintro e' w1 ⟨rfl, hb1⟩
          have f0 := later hb1 q0
          have f1 := later hb1 q1
          have f2 := later hb1 q2
          have hE1 := ext_trans hb hb1
          go_wp2_with fail
          refine (HM.out _ _ _ _ (HR.out.below hE1)).mono ?_
          rintro e' w2 ⟨rfl, hb2⟩
          go_wp2_with fail
          go_roundw
          case rel => exact ⟨k + 1, hlt, by go_num, by rw [HTS.out]; go_num, hid ((HB.out.below hb1).below hb2), ext_trans hE1 hb2⟩
          case measure => simp [intOf]; omega
        · obtain rfl : k = args.length := by omega
          rw [List.take_length]
          have HB1 := HB
          go_wp2_with fail
          refine (HCT.out _ _ _ _ (HR.out.below hb)).mono ?_
          rintro e' w1 ⟨rfl, hb1⟩
          have f0 := later hb1 q0
          have f1 := later hb1 q1
          have f2 := later hb1 q2
          have hE1 := ext_trans hb hb1
          go_wp2_with fail
          refine (HM.out _ _ _ _ (HR.out.below hE1)).mono ?_
          rintro e' w2 ⟨rfl, hb2⟩
          have g0 := later hb2 f0
          have g1 := later hb2 f1
          have g2 := later hb2 f2
          have hE2 := ext_trans hE1 hb2
          go_wp2_with fail
          refine (HM.out _ _ _ _ (HR.out.below hE2)).mono ?_
          rintro e' w3 ⟨rfl, hb3⟩
          go_wp2_with fail
          go_ret
          exact ⟨rfl, ext_trans hE2 hb3⟩
    · -- it may be
      have hwh : wholeS 6 (.mk op m args) = true := by simp only [mayS, Bool.and_eq_true] at hm; exact hm.1
      have hparts := fun k hk => mayS_part hm (k := k) hk
      have HP := hid hparts
      have HW : Hid (∀ w v0 v1 v2, RdEx w (.mk op m args) v0 v1 v2 → Calls Tryd.prog 16 #[.agg #[v0, v1, v2]] w fun e' w' => e' = .returned (.bool true) ∧ Below w.heap.size w w') := by
        have h := fun w v0 v1 v2 => Whole_any (.mk op m args) w v0 v1 v2
        rw [hwh] at h
        exact h
      have hmore : more < n ∨ n ≤ more := by omega
      have HMO := hid (show n ≤ more → ∀ w v0 v1 v2, RdEx w (.mk op m args) v0 v1 v2 → Calls Tryd.prog 17 #[.agg #[v0, v1, v2], .int .i64 more] w fun e' w' => e' = .returned (.bool true) ∧ Below w.heap.size w w' from fun h => may_is (mayS_mono h hm))
      have HMR := hid hmore
      clear hm hwh hparts hmore
      go_wp2_with fail
      refine HLG.out.mono ?_
      rintro e' w1 ⟨rfl, hb1⟩
      have hE := ext_trans hA hb1
      have hB1 := hid (HBK.out.below hb1)
      clear hA
      go_wp2_with fail
      refine (awake_any _ (HO.out.below hE)).mono ?_
      rintro e' w2 ⟨rfl, hb2⟩
      have hE2 := ext_trans hE hb2
      have hB2 := hid (hB1.out.below hb2)
      clear hE hb1 hb2 hB1
      go_wp2_with fail
      go_loopw [7, 8] (fun c i wr => ∃ k : Nat, k ≤ args.length ∧ i = .int .i64 k ∧ c = .int .i64 (1 + sizeL (args.take k) : Nat) ∧ Hid (Blk wr w.heap.size #[.int .u8 op, .int .i64 m, .slice a args.length cap] 29) ∧ Below w.heap.size w wr) (fun _ i _ => args.length - (intOf i).toNat)
      case atStart => exact ⟨0, Nat.zero_le _, rfl, by simp [sizeL], hB2, hE2⟩
      case round =>
        obtain ⟨k, hk, rfl, rfl, HB, hb⟩ := hrel
        have q0 := HB.out.cell 0 rfl
        have q1 := HB.out.cell 1 rfl
        have q2 := HB.out.cell 2 rfl
        by_cases hlt : k < args.length
        · obtain ⟨b, off, rfl, hrd⟩ := HX.out (by intro h; subst h; simp at hlt)
          obtain ⟨a', cap', e0, e1, e2, hx⟩ := hrd.get' k hlt
          have d0 := later hb e0
          have d1 := later hb e1
          have d2 := later hb e2
          have HY := hid (hx.below hb)
          have hle := sizeL_get_le args k hlt
          have hts := sizeL_take_succ args k hlt
          have htl := sizeL_take_le args (k+1)
          have HTS := hid hts
          have hb1 : sizeL (List.take k args) + sizeE args[k] ≤ 1000000 := by omega
          have hb3 : sizeE args[k] ≤ 1000000 := by omega
          have HC := hid (count_is hb3)
          have HPK := hid (may_is (HP.out k hlt))
          clear hx hts htl hle e0 e1 e2 hrd
          go_wp2_with fail
          refine (HC.out _ _ _ _ HY.out).mono ?_
          rintro e' w1 ⟨rfl, hb1⟩
          have f0 := later hb1 q0
          have f1 := later hb1 q1
          have f2 := later hb1 q2
          have hE1 := ext_trans hb hb1
          have k0 := later hb1 d0
          have k1 := later hb1 d1
          have k2 := later hb1 d2
          go_wp2_with fail
          refine (HM.out _ _ _ _ (HR.out.below hE1)).mono ?_
          rintro e' w2 ⟨rfl, hb2⟩
          have f0 := later hb2 f0
          have f1 := later hb2 f1
          have f2 := later hb2 f2
          have k0 := later hb2 k0
          have k1 := later hb2 k1
          have k2 := later hb2 k2
          have hE2 := ext_trans hE1 hb2
          go_wp2_with fail
          refine (HPK.out _ _ _ _ (HY.out.below (ext_trans hb1 hb2))).mono ?_
          rintro e' w3 ⟨rfl, hb3⟩
          go_wp2_with fail
          go_roundw
          case rel => exact ⟨k + 1, hlt, by go_num, by rw [HTS.out]; go_num, hid (((HB.out.below hb1).below hb2).below hb3), ext_trans hE2 hb3⟩
          case measure => simp [intOf]; omega
        · obtain rfl : k = args.length := by omega
          rw [List.take_length]
          go_wp2_with fail
          refine (HCT.out _ _ _ _ (HR.out.below hb)).mono ?_
          rintro e' w1 ⟨rfl, hb1⟩
          have f0 := later hb1 q0
          have f1 := later hb1 q1
          have f2 := later hb1 q2
          have hE1 := ext_trans hb hb1
          go_wp2_with fail
          refine (HM.out _ _ _ _ (HR.out.below hE1)).mono ?_
          rintro e' w2 ⟨rfl, hb2⟩
          have g0 := later hb2 f0
          have g1 := later hb2 f1
          have g2 := later hb2 f2
          have hE2 := ext_trans hE1 hb2
          go_wp2_with fail
          refine (HW.out _ _ _ _ (HR.out.below hE2)).mono ?_
          rintro e' w3 ⟨rfl, hb3⟩
          have g0 := later hb3 g0
          have g1 := later hb3 g1
          have g2 := later hb3 g2
          have hE3 := ext_trans hE2 hb3
          go_wp2_with fail
          refine (HM.out _ _ _ _ (HR.out.below hE3)).mono ?_
          rintro e' w4 ⟨rfl, hb4⟩
          have g0 := later hb4 g0
          have g1 := later hb4 g1
          have g2 := later hb4 g2
          have hE4 := ext_trans hE3 hb4
          rcases HMR.out with hlt2 | hge2
          · go_wp2_with fail
            go_ret
            exact ⟨rfl, hE4⟩
          · go_wp2_with fail
            refine (HMO.out hge2 _ _ _ _ (HR.out.below hE4)).mono ?_
            rintro e' w5 ⟨rfl, hb5⟩
            go_wp2_with fail
            go_ret
            exact ⟨by simp, ext_trans hE4 hb5⟩
  · rw [hl] at HLG
    have HLG := hid HLG
    clear hl
    go_enter Tryd.func7, Tryd.ntmps7
    go_wp2_with fail
    refine HLG.out.mono ?_
    rintro e' w1 ⟨rfl, hb1⟩
    have hE := ext_trans hA hb1
    go_wp2_with fail
    refine (awake_any _ (HO.out.below hE)).mono ?_
    rintro e' w2 ⟨rfl, hb2⟩
    go_wp2_with fail
    go_ret
    exact ⟨rfl, ext_trans hE hb2⟩
end Go.Proofs.YtonckpblbdopmaaDoor
