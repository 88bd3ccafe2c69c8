/-
  The walk of SetupLess.
-/
import Derived.Test.YtoeegiaajngpeaaSuP
import Derived.Test.YtoeegiaajngpeaaCpT2
import Derived.Test.YtoeegiaajngpeaaSuG3
namespace Go.Proofs.Ytoeegiaajngpeaa
set_option linter.unusedVariables false
set_option linter.unusedSimpArgs false
set_option linter.unusedVariables false
open Go Go.RowKit
theorem urem_range {x st : Int} (h : 1 ≤ st) (h2 : st ≤ 1000000) : ∃ r, wrap64 ((IntKind.u64.wrap x).tmod st) = r ∧ 0 ≤ r ∧ r < st := by
  have h0 : 0 ≤ IntKind.u64.wrap x := by simp [IntKind.wrap, IntKind.signed, IntKind.bits]; omega
  have e : (IntKind.u64.wrap x).tmod st = (IntKind.u64.wrap x) % st := Int.tmod_eq_emod_of_nonneg h0
  rw [e]
  have h1 := Int.emod_nonneg (IntKind.u64.wrap x) (b := st) (by omega)
  have h3 := Int.emod_lt_of_pos (IntKind.u64.wrap x) (b := st) (by omega)
  generalize (IntKind.u64.wrap x) % st = y at *
  exact ⟨y, by unfold wrap64; omega, h1, h3⟩
set_option maxRecDepth 100000 in
set_option maxHeartbeats 4000000 in
theorem setupLess_walk (st ck tr wh sp : Int) (is : List Int) (ths : List (List (List St))) (vi v : Value) (w : World) (hst : -9223372036854775808 ≤ st ∧ st ≤ 9223372036854775807) (hwh : -9223372036854775808 ≤ wh ∧ wh ≤ 9223372036854775807) (hsp : -9223372036854775808 ≤ sp ∧ sp ≤ 9223372036854775807) (hi : RdInts w is vi) (hr : RdThs w ths v) :
    Calls Try.prog 3 #[.agg #[.int .i64 st, .int .i64 ck, .int .i64 tr, vi, v], .int .i64 wh, .int .i64 sp] w fun e' w' => e' = .returned (.bool true) ∧ Below w.heap.size w w' := by
  obtain ⟨pi, ci, rfl⟩ := ints_slice hi
  have hni : is.length ≤ 9223372036854775807 := by obtain ⟨-, -, -, h, -⟩ := hi; exact h
  have HR := hid hr
  have HI := hid hi
  obtain ⟨a, cap, rfl, hlen, -⟩ := hr
  have HLG := hid (fun (W : World) (hb : Below w.heap.size w W) => large_any st ck tr pi is.length ci ths _ W (HR.out.below hb) hni)
  have HCK := hid (fun (W : World) (hb : Below w.heap.size w W) (hok : ∀ th ∈ ths, okTh th) => check_any st ck tr pi is.length ci ths _ W (HR.out.below hb) hok hni)
  have HCO := hid (fun (W : World) (hb : Below w.heap.size w W) => scost_any st ck tr pi is.length ci ths _ W (HR.out.below hb))
  have HNI := hid hni
  have HLN := hid hlen
  clear hni hi
  obtain ⟨W1, hW1⟩ : ∃ W1, W1 = w.alloc (.cells #[.int .i64 st, .int .i64 ck, .int .i64 tr, .slice pi is.length ci, .slice a ths.length cap] 25) := ⟨_, rfl⟩
  have hb1 : Below w.heap.size w W1 := by rw [hW1]; exact ext_alloc (ext_refl _) _
  have hx1 : Blk W1 w.heap.size #[.int .i64 st, .int .i64 ck, .int .i64 tr, .slice pi is.length ci, .slice a ths.length cap] 25 := by rw [hW1]; exact Blk.new _ _ _
  have HW1 := hid hW1
  have HB1 := hid hb1
  have HX1 := hid hx1
  have HWH := hid hwh
  have HSP := hid hsp
  clear hW1 hb1 hx1 hwh hsp hst
  go_enter Try.func3, Try.ntmps3
  go_wp2_with fail
  rw [← HW1.out]
  refine (HLG.out W1 HB1.out).mono ?_
  rintro e w2 ⟨q, rfl, hq, hb2⟩
  have HQ := hid hq
  have HX2 := hid (HX1.out.below hb2)
  have HB2 := hid (ext_trans HB1.out hb2)
  clear hq hb2 HX1 HB1 HW1 HLG
  cases q with
  | true =>
    have hf := HB2.out
    clear HCK HCO HQ
    go_wp2_with fail
    refine (sawake_any _).mono ?_
    rintro e w3 ⟨rfl, hb3⟩
    have hf := ext_trans hf hb3
    go_wp2_with fail
    go_ret
    exact ⟨rfl, hf⟩
  | false =>
  obtain ⟨l1, l2, hO⟩ := HQ.out rfl
  have HO := hid hO
  have HL1 := hid l1
  have HL2 := hid l2
  clear HQ l1 l2 hO
  go_wp2_with fail
  refine (sawake_any _).mono ?_
  rintro e w3 ⟨rfl, hb3⟩
  have HX3 := hid (HX2.out.below hb3)
  have HB3 := hid (ext_trans HB2.out hb3)
  clear hb3 HX2 HB2
  have e0 := HX3.out.cell 0 (v := .int .i64 st) rfl
  have e1 := HX3.out.cell 1 (v := .int .i64 ck) rfl
  have e2 := HX3.out.cell 2 (v := .int .i64 tr) rfl
  have e3 := HX3.out.cell 3 (v := .slice pi is.length ci) rfl
  have e4 := HX3.out.cell 4 (v := .slice a ths.length cap) rfl
  have hbl := HX3.out.lt
  go_wp2_with fail
  refine (HCK.out _ HB3.out HO.out).mono ?_
  rintro e w4 ⟨hres, hb4⟩
  have HX4 := hid (HX3.out.below hb4)
  have HB4 := hid (ext_trans HB3.out hb4)
  clear e0 e1 e2 e3 e4 hbl hb4 HX3 HB3
  rcases hres with ⟨rfl, hg⟩ | ⟨rfl, hg⟩
  case inr =>
    have hf := HB4.out
    go_wp2_with fail
    go_ret
    exact ⟨rfl, hf⟩
  have HG := hid hg
  have hs1 := hg.1.s0.1
  have hs2 : st ≤ 32 := by have := hg.1.s0.2; have := hg.1.n0.2; omega
  clear hg
  have HCP := hid (fun (W : World) (hb : Below w.heap.size w W) => rscopy_any st ck tr is ths _ _ W (HI.out.below hb) (HR.out.below hb) (by have := HL1.out; omega) HL2.out HO.out)
  have e0 := HX4.out.cell 0 (v := .int .i64 st) rfl
  have e1 := HX4.out.cell 1 (v := .int .i64 ck) rfl
  have e2 := HX4.out.cell 2 (v := .int .i64 tr) rfl
  have e3 := HX4.out.cell 3 (v := .slice pi is.length ci) rfl
  have e4 := HX4.out.cell 4 (v := .slice a ths.length cap) rfl
  have hbl := HX4.out.lt
  go_wp2_with fail
  refine (HCP.out _ HB4.out).mono ?_
  rintro e w5 ⟨v5, B5, u5, n5, rfl, hb5, hB5, hrow5, his5⟩
  obtain ⟨p5, c5, rfl⟩ := ints_slice (his5 w5 (Agree.refl _ _ _))
  obtain ⟨A5, d5, rfl⟩ := rowG_slice hrow5
  have HTA : Hid (∀ w'', Below w5.heap.size w5 w'' → RdThs w'' ths (.slice A5 ths.length d5)) := hid (fun w'' h => ths_of_G (rowG_end HLN.out hrow5 w'' (Agree.of_below h)))
  have HX5 := hid (HX4.out.below hb5)
  have HB5 := hid (ext_trans HB4.out hb5)
  have hxa : Blk (w5.alloc (.cells #[.int .i64 st, .int .i64 ck, .int .i64 tr, .slice p5 is.length c5, .slice A5 ths.length d5] 25)) w5.heap.size #[.int .i64 st, .int .i64 ck, .int .i64 tr, .slice p5 is.length c5, .slice A5 ths.length d5] 25 := Blk.new _ _ _
  have c0 : (w5.alloc (.cells #[.int .i64 st, .int .i64 ck, .int .i64 tr, .slice p5 is.length c5, .slice A5 ths.length d5] 25)).cell? ⟨w.heap.size, 0, none⟩ = some (.int .i64 st) := (HX5.out.alloc _).cell 0 rfl
  have hbl5 := HX5.out.lt
  have HXA := hid hxa
  clear e0 e1 e2 e3 e4 hbl hb5 hB5 hrow5 his5 hxa
  have z1 : ¬ st = 0 := by omega
  have z2 : IntKind.u64.wrap st = st := by simp [IntKind.wrap, IntKind.signed, IntKind.bits]; omega
  go_wp2_with fail
  obtain ⟨r, hr1, hr2, hr3⟩ := urem_range (x := sp) hs1 (by omega)
  have hr4 : wrap64 (1 + r) = 1 + r := by unfold wrap64; omega
  rw [hr1, hr4]
  have HGA := hid (good_stripes HG.out (st' := 1 + r) (by omega) (by omega))
  clear hr1 hr2 hr3 hr4 z1 z2 c0 hbl5
  obtain ⟨W6, hW6⟩ : ∃ W6, W6 = w5.alloc (.cells #[.int .i64 (1 + r), .int .i64 ck, .int .i64 tr, .slice p5 is.length c5, .slice A5 ths.length d5] 25) := ⟨_, rfl⟩
  have hb6 : Below w5.heap.size w5 W6 := by rw [hW6]; exact ext_alloc (ext_refl _) _
  rw [← hW6]
  have HX6 := hid (HX5.out.below hb6)
  have HB6 := hid (ext_trans HB5.out hb6)
  have HRA := hid (HTA.out _ hb6)
  clear hW6 hb6 HX5 HB5 HTA HXA HX4 HB4
  refine (check_any (1 + r) ck tr p5 is.length c5 ths _ W6 HRA.out HO.out HNI.out).mono ?_
  rintro e w7 ⟨hres, hb7⟩
  have HX7 := hid (HX6.out.below hb7)
  have HB7 := hid (ext_trans HB6.out hb7)
  clear HX6 HB6 HRA hb7
  rcases hres with ⟨rfl, -⟩ | ⟨rfl, hg⟩
  case inr => exact absurd HGA.out hg
  clear HGA
  have e0 := HX7.out.cell 0 (v := .int .i64 st) rfl
  have e1 := HX7.out.cell 1 (v := .int .i64 ck) rfl
  have e2 := HX7.out.cell 2 (v := .int .i64 tr) rfl
  have e3 := HX7.out.cell 3 (v := .slice pi is.length ci) rfl
  have e4 := HX7.out.cell 4 (v := .slice a ths.length cap) rfl
  have hbl := HX7.out.lt
  by_cases hl0 : ths.length = 0
  · have z1 : ((ths.length : Int) == 0) = true := by rw [beq_iff_eq]; omega
    have hf := HB7.out
    go_wp2_with fail
    go_ret
    exact ⟨rfl, hf⟩
  have z1 : ((ths.length : Int) == 0) = false := by rw [beq_eq_false_iff_ne]; omega
  have z1n : (ths.length == 0) = false := by rw [beq_eq_false_iff_ne]; omega
  have HL0 := hid hl0
  clear hl0
  go_wp2_with fail
  refine (HCP.out _ HB7.out).mono ?_
  rintro e w8 ⟨v5, B8, u8, n8, rfl, hb8, hB8, hrow8, his8⟩
  obtain ⟨p8, c8, rfl⟩ := ints_slice (his8 w8 (Agree.refl _ _ _))
  obtain ⟨g8, d8, cur8, rfl, hcap8, hat8⟩ := thsAt_of hrow8 (by intro h; rw [h] at HL0; exact HL0.out rfl)
  have HTB : Hid (∀ w'', Below w8.heap.size w8 w'' → RdThs w'' (ths.take (ths.length - 1)) (.slice (some ⟨g8, 0, none⟩) (ths.length - 1) d8)) := hid (fun w'' h => RdSl.take (thsAt_read (cap := d8) HLN.out hat8 w'' (Agree.of_below h)) _ _ (by omega))
  have HX8 := hid (HX7.out.below hb8)
  have HB8 := hid (ext_trans HB7.out hb8)
  clear e0 e1 e2 e3 e4 hbl hb8 hB8 hrow8 his8 hat8 HX7 HB7
  have s1 : IntKind.i64.wrap ((ths.length : Int) - 1) = (ths.length : Int) - 1 := IntWalk.i64_in _ (by have := HL2.out; omega)
  have s2 : (0 : Int) ≤ (ths.length : Int) - 1 := by have := HL0.out; omega
  have s3 : (ths.length : Int) - 1 ≤ (d8 : Int) := by omega
  have s4 : ((ths.length : Int) - 1).toNat = ths.length - 1 := by omega
  obtain ⟨W9, hW9⟩ : ∃ W9, W9 = w8.alloc (.cells #[.int .i64 st, .int .i64 ck, .int .i64 tr, .slice p8 is.length c8, .slice (some ⟨g8, 0, none⟩) (ths.length - 1) d8] 25) := ⟨_, rfl⟩
  have hb9 : Below w8.heap.size w8 W9 := by rw [hW9]; exact ext_alloc (ext_refl _) _
  have hxb : Blk W9 w8.heap.size #[.int .i64 st, .int .i64 ck, .int .i64 tr, .slice p8 is.length c8, .slice (some ⟨g8, 0, none⟩) (ths.length - 1) d8] 25 := by rw [hW9]; exact Blk.new _ _ _
  have HXB := hid hxb
  have HX9 := hid (HX8.out.below hb9)
  have HB9 := hid (ext_trans HB8.out hb9)
  have HRB := hid (HTB.out _ hb9)
  have HW9 := hid hW9
  have e0 := HX8.out.cell 0 (v := .int .i64 st) rfl
  have e1 := HX8.out.cell 1 (v := .int .i64 ck) rfl
  have e2 := HX8.out.cell 2 (v := .int .i64 tr) rfl
  have e3 := HX8.out.cell 3 (v := .slice pi is.length ci) rfl
  have e4 := HX8.out.cell 4 (v := .slice a ths.length cap) rfl
  have hbl := HX8.out.lt
  clear hW9 hb9 hxb HX8 HB8 HTB
  go_wp2_with fail
  rw [← HW9.out]
  refine (HCP.out _ HB9.out).mono ?_
  rintro e w10 ⟨v5, B10, u10, n10, rfl, hb10, hB10, hrow10, his10⟩
  obtain ⟨p10, c10, rfl⟩ := ints_slice (his10 w10 (Agree.refl _ _ _))
  obtain ⟨g10, d10, cur10, rfl, hcap10, hat10⟩ := thsAt_of hrow10 (by intro h; rw [h] at HL0; exact HL0.out rfl)
  have HAT := hid hat10
  have HX10 := hid (HX9.out.below hb10)
  have HXB10 := hid (HXB.out.below hb10)
  have HRB10 := hid (HRB.out.below hb10)
  have HB10 := hid (ext_trans HB9.out hb10)
  have HBB := hid hB10
  have HCAP := hid hcap10
  have HL9 := hid (Nat.lt_of_lt_of_le HXB.out.lt hB10)
  have HL99 := hid (Nat.lt_of_lt_of_le HX9.out.lt hB10)
  have HG10 : Hid (W9.heap.size ≤ g10 ∧ g10 < w10.heap.size) := hid ⟨Nat.le_trans hB10 hat10.2.1, hat10.2.2.1⟩
  have HB910 := hid hb10
  clear e0 e1 e2 e3 e4 hbl hb10 hB10 hrow10 his10 hat10 HW9
  obtain ⟨x, hx1, hx2, hx3⟩ := urem_range (x := wh) (st := (ths.length : Int)) (by have := HL0.out; omega) (by have := HL2.out; omega)
  obtain ⟨k, rfl⟩ : ∃ k : Nat, x = (k : Int) := ⟨x.toNat, by omega⟩
  have hkl : k < ths.length := by omega
  have z2 : IntKind.u64.wrap (ths.length : Int) = (ths.length : Int) := by have := HL2.out; simp [IntKind.wrap, IntKind.signed, IntKind.bits]; omega
  have z3 : ¬ (ths.length : Int) = 0 := by have := HL0.out; omega
  have z3n : ¬ ths.length = 0 := HL0.out
  obtain ⟨W11, hW11⟩ : ∃ W11, W11 = w10.alloc (.cells #[.int .i64 st, .int .i64 ck, .int .i64 tr, .slice p10 is.length c10, .slice (some ⟨g10, 0, none⟩) ths.length d10] 25) := ⟨_, rfl⟩
  have hb11 : Below w10.heap.size w10 W11 := by rw [hW11]; exact ext_alloc (ext_refl _) _
  have hxc : Blk W11 w10.heap.size #[.int .i64 st, .int .i64 ck, .int .i64 tr, .slice p10 is.length c10, .slice (some ⟨g10, 0, none⟩) ths.length d10] 25 := by rw [hW11]; exact Blk.new _ _ _
  have HXC := hid hxc
  have HX11 := hid (HX10.out.below hb11)
  have HXB11 := hid (HXB10.out.below hb11)
  have HB11 := hid (ext_trans HB10.out hb11)
  have HRB11 := hid (HRB10.out.below hb11)
  have HAT11 := hid (thsAt_agree HAT.out (Agree.of_below hb11) hb11.size)
  have HW11 := hid hW11
  have HB1011 := hid hb11
  have hl8 := HXB10.out.lt
  clear hW11 hb11 hxc HX10 HXB10 HB10 HRB10 HAT
  go_upto_if 40 with fail
  --MARK
  obtain ⟨pt, ct, lo, hi, hc1, hct, -, -, -, -⟩ := HAT11.out.2.2.2 k hkl
  obtain ⟨th, hth⟩ : ∃ th, ths[k]'hkl = th := ⟨_, rfl⟩
  rw [hth] at hc1 hct
  have HCT := hid hct
  have hthl : th.length ≤ 20 := by have := (HO.out th (by rw [← hth]; exact List.getElem_mem hkl)).1; omega
  rw [hx1]
  obtain ⟨W12, hW12⟩ : ∃ W12, W12 = W11.drew := ⟨_, rfl⟩
  have hb12 : Below W11.heap.size W11 W12 := by rw [hW12]; exact ext_drew (ext_refl _)
  have HAT12 := hid (thsAt_agree HAT11.out (Agree.of_below hb12) hb12.size)
  have HX12 := hid (HX11.out.below hb12)
  have HXB12 := hid (HXB11.out.below hb12)
  have HXC12 := hid (HXC.out.below hb12)
  have HB12 := hid (ext_trans HB11.out hb12)
  have HRB12 := hid (HRB11.out.below hb12)
  have HW12 := hid hW12
  have HB1112 := hid hb12
  have HTHE := hid hth
  have HC1 := hid hc1
  have HKL := hid hkl
  have c4 := HXC12.out.cell 4 (v := .slice (some ⟨g10, 0, none⟩) ths.length d10) rfl
  have c5 := HAT12.out.1.cell k hc1
  have c6 := HAT12.out.1.free k
  have y1 : (0 : Int) ≤ (k : Int) := by omega
  have y2 : (k : Int) < (ths.length : Int) := by omega
  have y3 : IntKind.i64.wrap ((th.length : Int) - 1) = (th.length : Int) - 1 := IntWalk.i64_in _ (by omega)
  clear hx1 hx2 hx3 hb12 hth hc1 hct hW12 HX11 HXB11 HXC HB11 HRB11 HAT11
  apply wp_region_then 17 (fun i x _ => x = ([.pointer (some ⟨w10.heap.size, 4, none⟩), .slice (some ⟨g10, 0, none⟩) ths.length d10, .int .i64 (k : Int), .pointer (some ⟨w10.heap.size, 4, none⟩), .slice (some ⟨g10, 0, none⟩) ths.length d10, .int .i64 (k : Int), .pointer (some ⟨g10, k, none⟩), .slice pt th.length ct, .pointer (some ⟨w10.heap.size, 4, none⟩), .slice (some ⟨g10, 0, none⟩) ths.length d10, .int .i64 (k : Int), .pointer (some ⟨g10, k, none⟩), .slice pt th.length ct, .int .i64 (th.length : Int), .int .i64 ((th.length : Int) - 1), .int .i64 ((th.length - 1 : Nat) : Int), .slice pt (th.length - 1) ct] : List Value).getD i undef) (fun w' => w' = W12) (fun w1 w2 => w1 = w2)
    (fun i vs w' => match i with
      | 17 => w' = W12 ∧ vs 1 = .slice (some ⟨g10, 0, none⟩) ths.length d10 ∧ vs 2 = .int .i64 (k : Int) ∧ vs 16 = .slice pt (th.length - 1) ct
      | 18 => w' = W12 ∧ vs 16 = .slice pt (th.length - 1) ct ∧ vs 17 = .pointer (some ⟨g10, k, none⟩)
      | 19 => w' = W12.setCell ⟨g10, k, none⟩ (.slice pt (th.length - 1) ct)
      | _ => False)
  focus (intro vals; simp [putAll, dstOf, Act.put, List.getD]; rfl)
  case hm => kernel_rfl
  case hd => kernel_rfl
  case hb => kernel_rfl
  case hng => kernel_rfl
  case hsz => kernel_rfl
  case hN => rfl
  case htail => kernel_rfl
  case hstab => intro i x w1 w2 h hb; exact h
  case h0 => rw [← HW11.out]; exact HW12.out.symm
  case hstart => exact fun vs w' hG hV => ⟨hG, hV 1 (by omega), hV 2 (by omega), hV 16 (by omega)⟩
  case hstepA =>
    refine ⟨?_, ?_, ?_, ?_, ?_, ?_, ?_, ?_, ?_, ?_, ?_, ?_, ?_, ?_, ?_, ?_, ?_, trivial⟩
    all_goals (
      refine ⟨(fun g b h => by cases h), fun w' hG hg ρ h1 h2 h3 h4 h5 => ?_⟩
      subst hG)
    · have f9 := h5 9 (by kernel_rfl)
      clear h4 h5
      unfold OpY
      go_simp
      exact ⟨rfl, rfl, rfl⟩
    · have f59 : ρ (.tmp 59) = .pointer (some ⟨w10.heap.size, 4, none⟩) := h4 0 59 (by kernel_rfl) (by kernel_rfl)
      clear h4 h5
      unfold OpY
      go_simp
      exact ⟨rfl, rfl, rfl⟩
    · have f10 := h5 10 (by kernel_rfl)
      clear h4 h5
      unfold OpY
      go_simp
      exact ⟨rfl, rfl, rfl⟩
    · have f9 := h5 9 (by kernel_rfl)
      clear h4 h5
      unfold OpY
      go_simp
      exact ⟨rfl, rfl, rfl⟩
    · have f62 : ρ (.tmp 62) = .pointer (some ⟨w10.heap.size, 4, none⟩) := h4 3 62 (by kernel_rfl) (by kernel_rfl)
      clear h4 h5
      unfold OpY
      go_simp
      exact ⟨rfl, rfl, rfl⟩
    · have f10 := h5 10 (by kernel_rfl)
      clear h4 h5
      unfold OpY
      go_simp
      exact ⟨rfl, rfl, rfl⟩
    · have f63 : ρ (.tmp 63) = .slice (some ⟨g10, 0, none⟩) ths.length d10 := h4 4 63 (by kernel_rfl) (by kernel_rfl)
      have f64 : ρ (.tmp 64) = .int .i64 (k : Int) := h4 5 64 (by kernel_rfl) (by kernel_rfl)
      clear h4 h5
      unfold OpY
      go_simp
      exact ⟨rfl, rfl, rfl⟩
    · have f65 : ρ (.tmp 65) = .pointer (some ⟨g10, k, none⟩) := h4 6 65 (by kernel_rfl) (by kernel_rfl)
      clear h4 h5
      unfold OpY
      go_simp
      exact ⟨rfl, rfl, rfl⟩
    · have f9 := h5 9 (by kernel_rfl)
      clear h4 h5
      unfold OpY
      go_simp
      exact ⟨rfl, rfl, rfl⟩
    · have f67 : ρ (.tmp 67) = .pointer (some ⟨w10.heap.size, 4, none⟩) := h4 8 67 (by kernel_rfl) (by kernel_rfl)
      clear h4 h5
      unfold OpY
      go_simp
      exact ⟨rfl, rfl, rfl⟩
    · have f10 := h5 10 (by kernel_rfl)
      clear h4 h5
      unfold OpY
      go_simp
      exact ⟨rfl, rfl, rfl⟩
    · have f68 : ρ (.tmp 68) = .slice (some ⟨g10, 0, none⟩) ths.length d10 := h4 9 68 (by kernel_rfl) (by kernel_rfl)
      have f69 : ρ (.tmp 69) = .int .i64 (k : Int) := h4 10 69 (by kernel_rfl) (by kernel_rfl)
      clear h4 h5
      unfold OpY
      go_simp
      exact ⟨rfl, rfl, rfl⟩
    · have f70 : ρ (.tmp 70) = .pointer (some ⟨g10, k, none⟩) := h4 11 70 (by kernel_rfl) (by kernel_rfl)
      clear h4 h5
      unfold OpY
      go_simp
      exact ⟨rfl, rfl, rfl⟩
    · have f71 : ρ (.tmp 71) = .slice pt th.length ct := h4 12 71 (by kernel_rfl) (by kernel_rfl)
      clear h4 h5
      unfold OpY
      go_simp
      exact ⟨rfl, rfl, rfl⟩
    · have f72 : ρ (.tmp 72) = .int .i64 (th.length : Int) := h4 13 72 (by kernel_rfl) (by kernel_rfl)
      clear h4 h5
      unfold OpY
      go_simp
      exact ⟨rfl, rfl, rfl⟩
    · have f73 : ρ (.tmp 73) = .int .i64 ((th.length : Int) - 1) := h4 14 73 (by kernel_rfl) (by kernel_rfl)
      clear h4 h5
      unfold OpY
      go_simp
      exact ⟨by show Value.int _ _ = Value.int _ _; congr 1; omega, rfl, rfl⟩
    · have f66 : ρ (.tmp 66) = .slice pt th.length ct := h4 7 66 (by kernel_rfl) (by kernel_rfl)
      have f74 : ρ (.tmp 74) = .int .i64 ((th.length - 1 : Nat) : Int) := h4 15 74 (by kernel_rfl) (by kernel_rfl)
      have s6 : th.length ≤ ct + 1 := by have := HCT.out; omega
      clear h4 h5
      unfold OpY
      go_simp
      exact ⟨rfl, rfl, rfl⟩
  case hstepB =>
    refine ⟨?_, ?_, trivial⟩
    · refine ⟨rfl, fun vs w' hS ρ h1 h2 h3 h4 h5 => ?_⟩
      obtain ⟨rfl, hv1, hv2, hv16⟩ := hS
      have f60 : ρ (.tmp 60) = .slice (some ⟨g10, 0, none⟩) ths.length d10 := (h4 1 60 (by kernel_rfl) (by kernel_rfl)).trans hv1
      have f61 : ρ (.tmp 61) = .int .i64 (k : Int) := (h4 2 61 (by kernel_rfl) (by kernel_rfl)).trans hv2
      have HV16 := hid hv16
      clear h4 h5 hv1 hv2 hv16
      unfold OpY
      go_simp
      exact ⟨rfl, by simpa [doneV] using HV16.out, by simp [doneV]⟩
    · refine ⟨rfl, fun vs w' hS ρ h1 h2 h3 h4 h5 => ?_⟩
      obtain ⟨rfl, hv16, hv17⟩ := hS
      have f76 : ρ (.tmp 76) = .pointer (some ⟨g10, k, none⟩) := (h4 17 76 (by kernel_rfl) (by kernel_rfl)).trans hv17
      have f75 : ρ (.tmp 75) = .slice pt (th.length - 1) ct := (h4 16 75 (by kernel_rfl) (by kernel_rfl)).trans hv16
      clear h4 h5 hv16 hv17
      unfold OpY
      go_simp
      exact rfl
  case hdone =>
    rintro vals w' rfl
    obtain ⟨W13, hW13⟩ : ∃ W13, W13 = W12.setCell ⟨g10, k, none⟩ (.slice pt (th.length - 1) ct) := ⟨_, rfl⟩
    rw [← hW13]
    have hg10 := HG10.out
    have hb913 : Below W9.heap.size W9 W13 := by rw [hW13]; exact ext_set (ext_trans (ext_trans HB910.out HB1011.out) HB1112.out) (by dsimp only; omega) _
    obtain ⟨cur13, hat13⟩ : ∃ cur13, ThsAt W13 B10 (ths.set k ((ths[k]'hkl).take (th.length - 1))) g10 cur13 := by rw [hW13]; exact ⟨_, thsAt_set HAT12.out hkl (by rw [HTHE.out]; omega) (by have := HCT.out; omega) (by rw [HTHE.out]; exact HC1.out)⟩
    have HX13 := hid (HX9.out.below hb913)
    have HXB13 := hid (HXB.out.below hb913)
    have hxc13 : Blk W13 w10.heap.size #[.int .i64 st, .int .i64 ck, .int .i64 tr, .slice p10 is.length c10, .slice (some ⟨g10, 0, none⟩) ths.length d10] 25 := by rw [hW13]; exact HXC12.out.set_other _ _ (by dsimp only; omega)
    have HXC13 := hid hxc13
    have HB13 := hid (ext_trans HB9.out hb913)
    have HRB13 := hid (HRB.out.below hb913)
    have HCKB := hid (fun (W : World) (hb : Below W13.heap.size W13 W) => (check_any st ck tr p8 is.length c8 _ _ W (HRB13.out.below hb) (fun x hx => HO.out x (List.mem_of_mem_take hx)) HNI.out).mono (fun e' w' h => (⟨h.1.elim (fun x => x.1) (fun x => absurd (good_take HG.out _) x.2), h.2⟩ : e' = .returned (.int .i64 0) ∧ Below W.heap.size W w')))
    have HRC13 : Hid (∀ W, Below W13.heap.size W13 W → RdThs W (ths.set k ((ths[k]'hkl).take (th.length - 1))) (.slice (some ⟨g10, 0, none⟩) ths.length d10)) := hid (fun W hb => by have := thsAt_read (cap := d10) (by rw [List.length_set]; exact HLN.out) hat13 W (Agree.of_below hb); rwa [List.length_set] at this)
    have HCKC := hid (fun (W : World) (hb : Below W13.heap.size W13 W) => (check_any st ck tr p10 is.length c10 _ _ W (HRC13.out W hb) (fun x hx => by
      rcases mem_set_of hx with rfl | hx
      · exact okTh_take (HO.out _ (List.getElem_mem hkl)) _
      · exact HO.out x hx) HNI.out).mono (fun e' w' h => (⟨h.1.elim (fun x => x.1) (fun x => absurd (good_set HG.out k _ hkl) x.2), h.2⟩ : e' = .returned (.int .i64 0) ∧ Below W.heap.size W w')))
    have HCOB := hid (fun (W : World) (hb : Below W13.heap.size W13 W) => scost_any st ck tr p8 is.length c8 _ _ W (HRB13.out.below hb))
    have HCOC := hid (fun (W : World) (hb : Below W13.heap.size W13 W) => scost_any st ck tr p10 is.length c10 _ _ W (HRC13.out W hb))
    have HCOS := hid (fun (W : World) (hb : Below W13.heap.size W13 W) => HCO.out W (ext_trans HB13.out hb))
    have hcb := cost_take ths (ths.length - 1)
    have hcc := cost_set ths k (th.length - 1) hkl
    generalize costThs (ths.take (ths.length - 1)) = cb at *
    generalize costThs (ths.set k ((ths[k]'hkl).take (th.length - 1))) = cc at *
    generalize costThs ths = cs at *
    have k1 : decide ((cb : Int) ≤ (cs : Int)) = true := decide_eq_true (by omega)
    have k1n : decide (cb ≤ cs) = true := decide_eq_true hcb
    have k2 : decide ((cc : Int) ≤ (cs : Int)) = true := decide_eq_true (by omega)
    have k2n : decide (cc ≤ cs) = true := decide_eq_true hcc
    clear hcb hcc hb913 hat13 hxc13 hW13 c4 c5 c6
    go_upto_if 40 with fail
    apply wp_region_known (fun qq => ([(.agg #[.int .i64 st, .int .i64 ck, .int .i64 tr, .slice p8 is.length c8, .slice (some ⟨g8, 0, none⟩) (ths.length - 1) d8]), (.int .i64 0), (.bool true), (.bool true), (WT true (.agg #[.int .i64 st, .int .i64 ck, .int .i64 tr, .slice p10 is.length c10, .slice (some ⟨g10, 0, none⟩) ths.length d10])), (WT true (.int .i64 0)), (WT true (.bool true)), (.bool true), (.bool true), (WT true (.agg #[.int .i64 st, .int .i64 ck, .int .i64 tr, .slice p8 is.length c8, .slice (some ⟨g8, 0, none⟩) (ths.length - 1) d8])), (WT true (.int .i64 (cb : Int))), (WT true (.agg #[.int .i64 st, .int .i64 ck, .int .i64 tr, .slice pi is.length ci, .slice a ths.length cap])), (WT true (.int .i64 (cs : Int))), (WT true (.bool true)), (.bool true), (.bool true), (WT true (.agg #[.int .i64 st, .int .i64 ck, .int .i64 tr, .slice p10 is.length c10, .slice (some ⟨g10, 0, none⟩) ths.length d10])), (WT true (.int .i64 (cc : Int))), (WT true (.agg #[.int .i64 st, .int .i64 ck, .int .i64 tr, .slice pi is.length ci, .slice a ths.length cap])), (WT true (.int .i64 (cs : Int))), (WT true (.bool true)), (.bool true), (.bool true)] : List Value).getD qq undef) (fun w' => Below W13.heap.size W13 w')
    focus (simp [putAll, dstOf, Act.put, List.getD]; rfl)
    case hm => kernel_rfl
    case hd => kernel_rfl
    case hb => kernel_rfl
    case hng => kernel_rfl
    case hsz => kernel_rfl
    case h0 => exact ext_drew (ext_refl _)
    case hstep =>
      refine ⟨?_, ?_, ?_, ?_, ?_, ?_, ?_, ?_, ?_, ?_, ?_, ?_, ?_, ?_, ?_, ?_, ?_, ?_, ?_, ?_, ?_, ?_, ?_, trivial⟩
      · refine ⟨(fun g b h => by cases h), fun w' hG hg ρ h1 h2 h3 h4 h5 => ?_⟩
        have hG := hid hG
        have f8 : ρ (.tmp 8) = .pointer (some ⟨w8.heap.size, 0, none⟩) := h5 8 (by kernel_rfl)
        have c0 := later hG.out (HXB13.out.cell 0 (v := .int .i64 st) rfl)
        have c1 := later hG.out (HXB13.out.cell 1 (v := .int .i64 ck) rfl)
        have c2 := later hG.out (HXB13.out.cell 2 (v := .int .i64 tr) rfl)
        have c3 := later hG.out (HXB13.out.cell 3 (v := .slice p8 is.length c8) rfl)
        have c4 := later hG.out (HXB13.out.cell 4 (v := .slice (some ⟨g8, 0, none⟩) (ths.length - 1) d8) rfl)
        all_goals
          try dsimp only [WF, WT] at *
          clear h4 h5 hg
          unfold OpY
          go_simp
          first | exact ⟨rfl, hG.out⟩ | exact ⟨Or.inr rfl, hG.out⟩ | exact ⟨Or.inl rfl, hG.out⟩
      · refine ⟨(fun g b h => by cases h), fun w' hG hg ρ h1 h2 h3 h4 h5 => ?_⟩
        have hG := hid hG
        have f77 : ρ (.tmp 77) = (.agg #[.int .i64 st, .int .i64 ck, .int .i64 tr, .slice p8 is.length c8, .slice (some ⟨g8, 0, none⟩) (ths.length - 1) d8]) := h4 0 77 (by kernel_rfl) (by kernel_rfl)
        all_goals
          try dsimp only [WF, WT] at *
          clear h4 h5 hg
          unfold OpY
          go_simp
          unfold OpR
          refine (HCKB.out w' hG.out).mono ?_
          rintro e' w2 ⟨rfl, hb2⟩
          exact ⟨_, rfl, (by first | exact rfl | exact Or.inr rfl), ext_trans hG.out hb2⟩
      · refine ⟨(fun g b h => by cases h), fun w' hG hg ρ h1 h2 h3 h4 h5 => ?_⟩
        have hG := hid hG
        have f78 : ρ (.tmp 78) = (.int .i64 0) := h4 1 78 (by kernel_rfl) (by kernel_rfl)
        all_goals
          try dsimp only [WF, WT] at *
          clear h4 h5 hg
          unfold OpY
          go_simp
          first | exact ⟨rfl, hG.out⟩ | exact ⟨Or.inr rfl, hG.out⟩ | exact ⟨Or.inl rfl, hG.out⟩
      · refine ⟨(fun g b h => by cases h), fun w' hG hg ρ h1 h2 h3 h4 h5 => ?_⟩
        have hG := hid hG
        have f79 : ρ (.tmp 79) = (.bool true) := h4 2 79 (by kernel_rfl) (by kernel_rfl)
        all_goals
          try dsimp only [WF, WT] at *
          clear h4 h5 hg
          unfold OpY
          go_simp
          first | exact ⟨rfl, hG.out⟩ | exact ⟨Or.inr rfl, hG.out⟩ | exact ⟨Or.inl rfl, hG.out⟩
      · refine ⟨(fun g b h => by
            obtain ⟨rfl, rfl⟩ := Prod.mk.inj (Option.some.inj h)
            exact ⟨true, rfl, fun h => by first | rfl | exact absurd rfl h⟩), fun w' hG hg ρ h1 h2 h3 h4 h5 => ?_⟩
        have hG := hid hG
        have f9 : ρ (.tmp 9) = .pointer (some ⟨w10.heap.size, 0, none⟩) := h5 9 (by kernel_rfl)
        have c0 := later hG.out (HXC13.out.cell 0 (v := .int .i64 st) rfl)
        have c1 := later hG.out (HXC13.out.cell 1 (v := .int .i64 ck) rfl)
        have c2 := later hG.out (HXC13.out.cell 2 (v := .int .i64 tr) rfl)
        have c3 := later hG.out (HXC13.out.cell 3 (v := .slice p10 is.length c10) rfl)
        have c4 := later hG.out (HXC13.out.cell 4 (v := .slice (some ⟨g10, 0, none⟩) ths.length d10) rfl)
        all_goals
          try dsimp only [WF, WT] at *
          clear h4 h5 hg
          unfold OpY
          go_simp
          first | exact ⟨rfl, hG.out⟩ | exact ⟨Or.inr rfl, hG.out⟩ | exact ⟨Or.inl rfl, hG.out⟩
      · refine ⟨(fun g b h => by
            obtain ⟨rfl, rfl⟩ := Prod.mk.inj (Option.some.inj h)
            exact ⟨true, rfl, fun h => by first | rfl | exact absurd rfl h⟩), fun w' hG hg ρ h1 h2 h3 h4 h5 => ?_⟩
        have hG := hid hG
        have f81 : ρ (.tmp 81) = (WT true (.agg #[.int .i64 st, .int .i64 ck, .int .i64 tr, .slice p10 is.length c10, .slice (some ⟨g10, 0, none⟩) ths.length d10])) := h4 4 81 (by kernel_rfl) (by kernel_rfl)
        all_goals
          try dsimp only [WF, WT] at *
          clear h4 h5 hg
          unfold OpY
          go_simp
          unfold OpR
          refine (HCKC.out w' hG.out).mono ?_
          rintro e' w2 ⟨rfl, hb2⟩
          exact ⟨_, rfl, (by first | exact rfl | exact Or.inr rfl), ext_trans hG.out hb2⟩
      · refine ⟨(fun g b h => by
            obtain ⟨rfl, rfl⟩ := Prod.mk.inj (Option.some.inj h)
            exact ⟨true, rfl, fun h => by first | rfl | exact absurd rfl h⟩), fun w' hG hg ρ h1 h2 h3 h4 h5 => ?_⟩
        have hG := hid hG
        have f82 : ρ (.tmp 82) = (WT true (.int .i64 0)) := h4 5 82 (by kernel_rfl) (by kernel_rfl)
        all_goals
          try dsimp only [WF, WT] at *
          clear h4 h5 hg
          unfold OpY
          go_simp
          first | exact ⟨rfl, hG.out⟩ | exact ⟨Or.inr rfl, hG.out⟩ | exact ⟨Or.inl rfl, hG.out⟩
      · refine ⟨(fun g b h => by cases h), fun w' hG hg ρ h1 h2 h3 h4 h5 => ?_⟩
        have hG := hid hG
        have f80 : ρ (.tmp 80) = (.bool true) := h4 3 80 (by kernel_rfl) (by kernel_rfl)
        have f83 : ρ (.tmp 83) = (WT true (.bool true)) := h4 6 83 (by kernel_rfl) (by kernel_rfl)
        all_goals
          try dsimp only [WF, WT] at *
          clear h4 h5 hg
          unfold OpY
          go_simp
          first | exact ⟨rfl, hG.out⟩ | exact ⟨Or.inr rfl, hG.out⟩ | exact ⟨Or.inl rfl, hG.out⟩
      · refine ⟨(fun g b h => by cases h), fun w' hG hg ρ h1 h2 h3 h4 h5 => ?_⟩
        have hG := hid hG
        have f84 : ρ (.tmp 84) = (.bool true) := h4 7 84 (by kernel_rfl) (by kernel_rfl)
        all_goals
          try dsimp only [WF, WT] at *
          clear h4 h5 hg
          unfold OpY
          go_simp
          first | exact ⟨rfl, hG.out⟩ | exact ⟨Or.inr rfl, hG.out⟩ | exact ⟨Or.inl rfl, hG.out⟩
      · refine ⟨(fun g b h => by
            obtain ⟨rfl, rfl⟩ := Prod.mk.inj (Option.some.inj h)
            exact ⟨true, rfl, fun h => by first | rfl | exact absurd rfl h⟩), fun w' hG hg ρ h1 h2 h3 h4 h5 => ?_⟩
        have hG := hid hG
        have f8 : ρ (.tmp 8) = .pointer (some ⟨w8.heap.size, 0, none⟩) := h5 8 (by kernel_rfl)
        have c0 := later hG.out (HXB13.out.cell 0 (v := .int .i64 st) rfl)
        have c1 := later hG.out (HXB13.out.cell 1 (v := .int .i64 ck) rfl)
        have c2 := later hG.out (HXB13.out.cell 2 (v := .int .i64 tr) rfl)
        have c3 := later hG.out (HXB13.out.cell 3 (v := .slice p8 is.length c8) rfl)
        have c4 := later hG.out (HXB13.out.cell 4 (v := .slice (some ⟨g8, 0, none⟩) (ths.length - 1) d8) rfl)
        all_goals
          try dsimp only [WF, WT] at *
          clear h4 h5 hg
          unfold OpY
          go_simp
          first | exact ⟨rfl, hG.out⟩ | exact ⟨Or.inr rfl, hG.out⟩ | exact ⟨Or.inl rfl, hG.out⟩
      · refine ⟨(fun g b h => by
            obtain ⟨rfl, rfl⟩ := Prod.mk.inj (Option.some.inj h)
            exact ⟨true, rfl, fun h => by first | rfl | exact absurd rfl h⟩), fun w' hG hg ρ h1 h2 h3 h4 h5 => ?_⟩
        have hG := hid hG
        have f86 : ρ (.tmp 86) = (WT true (.agg #[.int .i64 st, .int .i64 ck, .int .i64 tr, .slice p8 is.length c8, .slice (some ⟨g8, 0, none⟩) (ths.length - 1) d8])) := h4 9 86 (by kernel_rfl) (by kernel_rfl)
        all_goals
          try dsimp only [WF, WT] at *
          clear h4 h5 hg
          unfold OpY
          go_simp
          unfold OpR
          refine (HCOB.out w' hG.out).mono ?_
          rintro e' w2 ⟨rfl, hb2⟩
          exact ⟨_, rfl, (by first | exact rfl | exact Or.inr rfl), ext_trans hG.out hb2⟩
      · refine ⟨(fun g b h => by
            obtain ⟨rfl, rfl⟩ := Prod.mk.inj (Option.some.inj h)
            exact ⟨true, rfl, fun h => by first | rfl | exact absurd rfl h⟩), fun w' hG hg ρ h1 h2 h3 h4 h5 => ?_⟩
        have hG := hid hG
        have f3 : ρ (.tmp 3) = .pointer (some ⟨w.heap.size, 0, none⟩) := h5 3 (by kernel_rfl)
        have c0 := later hG.out (HX13.out.cell 0 (v := .int .i64 st) rfl)
        have c1 := later hG.out (HX13.out.cell 1 (v := .int .i64 ck) rfl)
        have c2 := later hG.out (HX13.out.cell 2 (v := .int .i64 tr) rfl)
        have c3 := later hG.out (HX13.out.cell 3 (v := .slice pi is.length ci) rfl)
        have c4 := later hG.out (HX13.out.cell 4 (v := .slice a ths.length cap) rfl)
        all_goals
          try dsimp only [WF, WT] at *
          clear h4 h5 hg
          unfold OpY
          go_simp
          first | exact ⟨rfl, hG.out⟩ | exact ⟨Or.inr rfl, hG.out⟩ | exact ⟨Or.inl rfl, hG.out⟩
      · refine ⟨(fun g b h => by
            obtain ⟨rfl, rfl⟩ := Prod.mk.inj (Option.some.inj h)
            exact ⟨true, rfl, fun h => by first | rfl | exact absurd rfl h⟩), fun w' hG hg ρ h1 h2 h3 h4 h5 => ?_⟩
        have hG := hid hG
        have f88 : ρ (.tmp 88) = (WT true (.agg #[.int .i64 st, .int .i64 ck, .int .i64 tr, .slice pi is.length ci, .slice a ths.length cap])) := h4 11 88 (by kernel_rfl) (by kernel_rfl)
        all_goals
          try dsimp only [WF, WT] at *
          clear h4 h5 hg
          unfold OpY
          go_simp
          unfold OpR
          refine (HCOS.out w' hG.out).mono ?_
          rintro e' w2 ⟨rfl, hb2⟩
          exact ⟨_, rfl, (by first | exact rfl | exact Or.inr rfl), ext_trans hG.out hb2⟩
      · refine ⟨(fun g b h => by
            obtain ⟨rfl, rfl⟩ := Prod.mk.inj (Option.some.inj h)
            exact ⟨true, rfl, fun h => by first | rfl | exact absurd rfl h⟩), fun w' hG hg ρ h1 h2 h3 h4 h5 => ?_⟩
        have hG := hid hG
        have f87 : ρ (.tmp 87) = (WT true (.int .i64 (cb : Int))) := h4 10 87 (by kernel_rfl) (by kernel_rfl)
        have f89 : ρ (.tmp 89) = (WT true (.int .i64 (cs : Int))) := h4 12 89 (by kernel_rfl) (by kernel_rfl)
        all_goals
          try dsimp only [WF, WT] at *
          clear h4 h5 hg
          unfold OpY
          go_simp
          first | exact ⟨rfl, hG.out⟩ | exact ⟨Or.inr rfl, hG.out⟩ | exact ⟨Or.inl rfl, hG.out⟩
      · refine ⟨(fun g b h => by cases h), fun w' hG hg ρ h1 h2 h3 h4 h5 => ?_⟩
        have hG := hid hG
        have f85 : ρ (.tmp 85) = (.bool true) := h4 8 85 (by kernel_rfl) (by kernel_rfl)
        have f90 : ρ (.tmp 90) = (WT true (.bool true)) := h4 13 90 (by kernel_rfl) (by kernel_rfl)
        all_goals
          try dsimp only [WF, WT] at *
          clear h4 h5 hg
          unfold OpY
          go_simp
          first | exact ⟨rfl, hG.out⟩ | exact ⟨Or.inr rfl, hG.out⟩ | exact ⟨Or.inl rfl, hG.out⟩
      · refine ⟨(fun g b h => by cases h), fun w' hG hg ρ h1 h2 h3 h4 h5 => ?_⟩
        have hG := hid hG
        have f91 : ρ (.tmp 91) = (.bool true) := h4 14 91 (by kernel_rfl) (by kernel_rfl)
        all_goals
          try dsimp only [WF, WT] at *
          clear h4 h5 hg
          unfold OpY
          go_simp
          first | exact ⟨rfl, hG.out⟩ | exact ⟨Or.inr rfl, hG.out⟩ | exact ⟨Or.inl rfl, hG.out⟩
      · refine ⟨(fun g b h => by
            obtain ⟨rfl, rfl⟩ := Prod.mk.inj (Option.some.inj h)
            exact ⟨true, rfl, fun h => by first | rfl | exact absurd rfl h⟩), fun w' hG hg ρ h1 h2 h3 h4 h5 => ?_⟩
        have hG := hid hG
        have f9 : ρ (.tmp 9) = .pointer (some ⟨w10.heap.size, 0, none⟩) := h5 9 (by kernel_rfl)
        have c0 := later hG.out (HXC13.out.cell 0 (v := .int .i64 st) rfl)
        have c1 := later hG.out (HXC13.out.cell 1 (v := .int .i64 ck) rfl)
        have c2 := later hG.out (HXC13.out.cell 2 (v := .int .i64 tr) rfl)
        have c3 := later hG.out (HXC13.out.cell 3 (v := .slice p10 is.length c10) rfl)
        have c4 := later hG.out (HXC13.out.cell 4 (v := .slice (some ⟨g10, 0, none⟩) ths.length d10) rfl)
        all_goals
          try dsimp only [WF, WT] at *
          clear h4 h5 hg
          unfold OpY
          go_simp
          first | exact ⟨rfl, hG.out⟩ | exact ⟨Or.inr rfl, hG.out⟩ | exact ⟨Or.inl rfl, hG.out⟩
      · refine ⟨(fun g b h => by
            obtain ⟨rfl, rfl⟩ := Prod.mk.inj (Option.some.inj h)
            exact ⟨true, rfl, fun h => by first | rfl | exact absurd rfl h⟩), fun w' hG hg ρ h1 h2 h3 h4 h5 => ?_⟩
        have hG := hid hG
        have f93 : ρ (.tmp 93) = (WT true (.agg #[.int .i64 st, .int .i64 ck, .int .i64 tr, .slice p10 is.length c10, .slice (some ⟨g10, 0, none⟩) ths.length d10])) := h4 16 93 (by kernel_rfl) (by kernel_rfl)
        all_goals
          try dsimp only [WF, WT] at *
          clear h4 h5 hg
          unfold OpY
          go_simp
          unfold OpR
          refine (HCOC.out w' hG.out).mono ?_
          rintro e' w2 ⟨rfl, hb2⟩
          exact ⟨_, rfl, (by first | exact rfl | exact Or.inr rfl), ext_trans hG.out hb2⟩
      · refine ⟨(fun g b h => by
            obtain ⟨rfl, rfl⟩ := Prod.mk.inj (Option.some.inj h)
            exact ⟨true, rfl, fun h => by first | rfl | exact absurd rfl h⟩), fun w' hG hg ρ h1 h2 h3 h4 h5 => ?_⟩
        have hG := hid hG
        have f3 : ρ (.tmp 3) = .pointer (some ⟨w.heap.size, 0, none⟩) := h5 3 (by kernel_rfl)
        have c0 := later hG.out (HX13.out.cell 0 (v := .int .i64 st) rfl)
        have c1 := later hG.out (HX13.out.cell 1 (v := .int .i64 ck) rfl)
        have c2 := later hG.out (HX13.out.cell 2 (v := .int .i64 tr) rfl)
        have c3 := later hG.out (HX13.out.cell 3 (v := .slice pi is.length ci) rfl)
        have c4 := later hG.out (HX13.out.cell 4 (v := .slice a ths.length cap) rfl)
        all_goals
          try dsimp only [WF, WT] at *
          clear h4 h5 hg
          unfold OpY
          go_simp
          first | exact ⟨rfl, hG.out⟩ | exact ⟨Or.inr rfl, hG.out⟩ | exact ⟨Or.inl rfl, hG.out⟩
      · refine ⟨(fun g b h => by
            obtain ⟨rfl, rfl⟩ := Prod.mk.inj (Option.some.inj h)
            exact ⟨true, rfl, fun h => by first | rfl | exact absurd rfl h⟩), fun w' hG hg ρ h1 h2 h3 h4 h5 => ?_⟩
        have hG := hid hG
        have f95 : ρ (.tmp 95) = (WT true (.agg #[.int .i64 st, .int .i64 ck, .int .i64 tr, .slice pi is.length ci, .slice a ths.length cap])) := h4 18 95 (by kernel_rfl) (by kernel_rfl)
        all_goals
          try dsimp only [WF, WT] at *
          clear h4 h5 hg
          unfold OpY
          go_simp
          unfold OpR
          refine (HCOS.out w' hG.out).mono ?_
          rintro e' w2 ⟨rfl, hb2⟩
          exact ⟨_, rfl, (by first | exact rfl | exact Or.inr rfl), ext_trans hG.out hb2⟩
      · refine ⟨(fun g b h => by
            obtain ⟨rfl, rfl⟩ := Prod.mk.inj (Option.some.inj h)
            exact ⟨true, rfl, fun h => by first | rfl | exact absurd rfl h⟩), fun w' hG hg ρ h1 h2 h3 h4 h5 => ?_⟩
        have hG := hid hG
        have f94 : ρ (.tmp 94) = (WT true (.int .i64 (cc : Int))) := h4 17 94 (by kernel_rfl) (by kernel_rfl)
        have f96 : ρ (.tmp 96) = (WT true (.int .i64 (cs : Int))) := h4 19 96 (by kernel_rfl) (by kernel_rfl)
        all_goals
          try dsimp only [WF, WT] at *
          clear h4 h5 hg
          unfold OpY
          go_simp
          first | exact ⟨rfl, hG.out⟩ | exact ⟨Or.inr rfl, hG.out⟩ | exact ⟨Or.inl rfl, hG.out⟩
      · refine ⟨(fun g b h => by cases h), fun w' hG hg ρ h1 h2 h3 h4 h5 => ?_⟩
        have hG := hid hG
        have f92 : ρ (.tmp 92) = (.bool true) := h4 15 92 (by kernel_rfl) (by kernel_rfl)
        have f97 : ρ (.tmp 97) = (WT true (.bool true)) := h4 20 97 (by kernel_rfl) (by kernel_rfl)
        all_goals
          try dsimp only [WF, WT] at *
          clear h4 h5 hg
          unfold OpY
          go_simp
          first | exact ⟨rfl, hG.out⟩ | exact ⟨Or.inr rfl, hG.out⟩ | exact ⟨Or.inl rfl, hG.out⟩
      · refine ⟨(fun g b h => by cases h), fun w' hG hg ρ h1 h2 h3 h4 h5 => ?_⟩
        have hG := hid hG
        have f98 : ρ (.tmp 98) = (.bool true) := h4 21 98 (by kernel_rfl) (by kernel_rfl)
        all_goals
          try dsimp only [WF, WT] at *
          clear h4 h5 hg
          unfold OpY
          go_simp
          first | exact ⟨rfl, hG.out⟩ | exact ⟨Or.inr rfl, hG.out⟩ | exact ⟨Or.inl rfl, hG.out⟩
    case hdone =>
      intro w' hG
      have hG := hid hG
      go_wp2_with fail
      go_ret
      exact ⟨rfl, ext_trans HB13.out hG.out⟩
end Go.Proofs.Ytoeegiaajngpeaa
