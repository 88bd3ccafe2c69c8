/-
  The walk of SetupAlike (printed by tools/gen_sual.py).
-/
import Derived.Test.YtoeegiaajngpeaaSuA1
import Derived.Test.YtoeegiaajngpeaaSuG3
import Derived.Test.YtoeegiaajngpeaaSuC3
namespace Go.Proofs.Ytoeegiaajngpeaa
set_option linter.unusedVariables false
set_option linter.unusedSimpArgs false
set_option linter.unusedVariables false
open Go Go.RowKit
theorem urem_range2 {x st : Int} (h : 1 ≤ st) (h2 : st ≤ 1000000) : ∃ r, wrap64 ((IntKind.u64.wrap x).tmod st) = r ∧ 0 ≤ r ∧ r < st := by
  have h0 : 0 ≤ IntKind.u64.wrap x := by simp [IntKind.wrap, IntKind.signed, IntKind.bits]; omega
  have e : (IntKind.u64.wrap x).tmod st = (IntKind.u64.wrap x) % st := Int.tmod_eq_emod_of_nonneg h0
  rw [e]
  have h1 := Int.emod_nonneg (IntKind.u64.wrap x) (b := st) (by omega)
  have h3 := Int.emod_lt_of_pos (IntKind.u64.wrap x) (b := st) (by omega)
  generalize (IntKind.u64.wrap x) % st = y at *
  exact ⟨y, by unfold wrap64; omega, h1, h3⟩
set_option maxRecDepth 100000 in
set_option maxHeartbeats 4000000 in
theorem setupAlike_walk (st ck tr wh : Int) (is : List Int) (ths : List (List (List St))) (vi v : Value) (w : World) (hck : -9223372036854775808 ≤ ck ∧ ck ≤ 9223372036854775807) (hwh : -9223372036854775808 ≤ wh ∧ wh ≤ 9223372036854775807) (hi : RdInts w is vi) (hr : RdThs w ths v) :
    Calls Try.prog 4 #[.agg #[.int .i64 st, .int .i64 ck, .int .i64 tr, vi, v], .int .i64 wh] w fun e' w' => e' = .returned (.bool true) ∧ Below w.heap.size w w' := by
  obtain ⟨pi, ci, rfl⟩ := ints_slice hi
  have hni : is.length ≤ 9223372036854775807 := by obtain ⟨-, -, -, h, -⟩ := hi; exact h
  have HR := hid hr
  have HI := hid hi
  obtain ⟨a, cap, rfl, hlen, -⟩ := hr
  have HLG := hid (fun (W : World) (hb : Below w.heap.size w W) => large_any st ck tr pi is.length ci ths _ W (HR.out.below hb) hni)
  have HCK := hid (fun (W : World) (hb : Below w.heap.size w W) (hok : ∀ th ∈ ths, okTh th) => check_any st ck tr pi is.length ci ths _ W (HR.out.below hb) hok hni)
  have HCO := hid (fun (W : World) (hb : Below w.heap.size w W) => scost_any st ck tr pi is.length ci ths _ W (HR.out.below hb))
  have HNI := hid hni
  have HLN := hid hlen
  clear hni hi
  obtain ⟨W1, hW1⟩ : ∃ W1, W1 = w.alloc (.cells #[.int .i64 st, .int .i64 ck, .int .i64 tr, .slice pi is.length ci, .slice a ths.length cap] 25) := ⟨_, rfl⟩
  have hb1 : Below w.heap.size w W1 := by rw [hW1]; exact ext_alloc (ext_refl _) _
  have hx1 : Blk W1 w.heap.size #[.int .i64 st, .int .i64 ck, .int .i64 tr, .slice pi is.length ci, .slice a ths.length cap] 25 := by rw [hW1]; exact Blk.new _ _ _
  have HW1 := hid hW1
  have HB1 := hid hb1
  have HX1 := hid hx1
  have HWH := hid hwh
  clear hW1 hb1 hx1 hwh
  go_enter Try.func4, Try.ntmps4
  go_wp2_with fail
  rw [← HW1.out]
  refine (HLG.out W1 HB1.out).mono ?_
  rintro e w2 ⟨q, rfl, hq, hb2⟩
  have HQ := hid hq
  have HX2 := hid (HX1.out.below hb2)
  have HB2 := hid (ext_trans HB1.out hb2)
  clear hq hb2 HX1 HB1 HW1 HLG
  cases q with
  | true =>
    have hf := HB2.out
    clear HCK HCO HQ
    go_wp2_with fail
    refine (sawake_any _).mono ?_
    rintro e w3 ⟨rfl, hb3⟩
    have hf := ext_trans hf hb3
    go_wp2_with fail
    go_ret
    exact ⟨rfl, hf⟩
  | false =>
  obtain ⟨l1, l2, hO⟩ := HQ.out rfl
  have HO := hid hO
  have HL1 := hid l1
  have HL2 := hid l2
  clear HQ l1 l2 hO
  go_wp2_with fail
  refine (sawake_any _).mono ?_
  rintro e w3 ⟨rfl, hb3⟩
  have HX3 := hid (HX2.out.below hb3)
  have HB3 := hid (ext_trans HB2.out hb3)
  clear hb3 HX2 HB2
  have HRG : Hid (∀ x ∈ is, -9223372036854775808 ≤ x ∧ x ≤ 9223372036854775807) := hid (by obtain ⟨-, -, -, -, h, -⟩ := HI.out; exact h)
  have HCP := hid (fun (W : World) (hb : Below w.heap.size w W) => scopy_any st ck tr is ths _ _ W (HI.out.below hb) (HR.out.below hb) (by have := HL1.out; omega) HL2.out HO.out)
  obtain ⟨ev, hev⟩ : ∃ ev : Int, ∀ (p : Option Addr) (c : Nat) (x : Value) (W : World), RdThs W ths x → Calls Try.prog 8 #[.agg #[.int .i64 st, .int .i64 ck, .int .i64 tr, .slice p is.length c, x]] W fun e' w' => e' = .returned (.int .i64 ev) ∧ Below W.heap.size W w' := by
    by_cases hg : GoodS st ck tr is.length ths
    · exact ⟨0, fun p c x W h => (check_any st ck tr p is.length c ths x W h HO.out HNI.out).mono (fun e' w' h => ⟨h.1.elim (fun y => y.1) (fun y => absurd hg y.2), h.2⟩)⟩
    · exact ⟨4, fun p c x W h => (check_any st ck tr p is.length c ths x W h HO.out HNI.out).mono (fun e' w' h => ⟨h.1.elim (fun y => absurd y.2 hg) (fun y => y.1), h.2⟩)⟩
  have HEV := hid hev
  clear hev
  have e0 := HX3.out.cell 0 (v := .int .i64 st) rfl
  have e1 := HX3.out.cell 1 (v := .int .i64 ck) rfl
  have e2 := HX3.out.cell 2 (v := .int .i64 tr) rfl
  have e3 := HX3.out.cell 3 (v := .slice pi is.length ci) rfl
  have e4 := HX3.out.cell 4 (v := .slice a ths.length cap) rfl
  have hbl := HX3.out.lt
  go_wp2_with fail
  refine (HCP.out _ HB3.out).mono ?_
  rintro e w4 hcp
  obtain ⟨pc, cc, Ac, dc, Bc, rfl, hb4, hat⟩ := CpAt.of hcp
  clear e0 e1 e2 e3 e4 hbl hcp
  obtain ⟨W5, hW5⟩ : ∃ W5, W5 = w4.alloc (.cells #[.int .i64 st, .int .i64 ck, .int .i64 tr, .slice pc is.length cc, .slice Ac ths.length dc] 25) := ⟨_, rfl⟩
  have hb5 : Below w4.heap.size w4 W5 := by rw [hW5]; exact ext_alloc (ext_refl _) _
  have hxc : Blk W5 w4.heap.size #[.int .i64 st, .int .i64 ck, .int .i64 tr, .slice pc is.length cc, .slice Ac ths.length dc] 25 := by rw [hW5]; exact Blk.new _ _ _
  have HW5 := hid hW5
  have HXC := hid hxc
  have HX5 := hid ((HX3.out.below hb4).below hb5)
  have HB5 := hid (ext_trans (ext_trans HB3.out hb4) hb5)
  have HAT := hid (hat.below hb5)
  have HB35 := hid (ext_trans hb4 hb5)
  clear hW5 hxc hat hb4 hb5 HX3 
  have HRI := hid (fun (W : World) (hb : Below W5.heap.size W5 W) => (HI.out.below (ext_trans HB5.out hb)))
  have HRT := hid (fun (W : World) (hb : Below W5.heap.size W5 W) => (HR.out.below (ext_trans HB5.out hb)))
  have HCI := hid (fun (W : World) (hb : Below W5.heap.size W5 W) => HAT.out.ints' (w'' := W) HRG.out (fun g hg => hb.block g (by have := HAT.out.hi; have := HAT.out.owns.2 g hg; omega)))
  have HCT := hid (fun (W : World) (hb : Below W5.heap.size W5 W) => HAT.out.ths' (w'' := W) HLN.out ((Agree.of_below hb).sub (Nat.le_refl _) HAT.out.hi.1))
  have HSA := hid (fun (W : World) (hb : Below W5.heap.size W5 W) => susame_any st ck tr st ck tr is is ths ths _ _ _ _ W (HRI.out W hb) (HCI.out W hb) (HRT.out W hb) (HCT.out W hb) true (by simp))
  have HSB := hid (fun (W : World) (hb : Below W5.heap.size W5 W) => susame_any st ck tr st ck tr is is ths ths _ _ _ _ W (HCI.out W hb) (HRI.out W hb) (HCT.out W hb) (HRT.out W hb) true (by simp))
  have HKA := hid (fun (W : World) (hb : Below W5.heap.size W5 W) => HEV.out pi ci _ W (HRT.out W hb))
  have HKB := hid (fun (W : World) (hb : Below W5.heap.size W5 W) => HEV.out pc cc _ W (HCT.out W hb))
  go_upto_if 40 with fail
  rw [← HW5.out]
  apply wp_region_known (fun qq => ([(.agg #[.int .i64 st, .int .i64 ck, .int .i64 tr, .slice pi is.length ci, .slice a ths.length cap]), (.agg #[.int .i64 st, .int .i64 ck, .int .i64 tr, .slice pc is.length cc, .slice Ac ths.length dc]), (.bool true), (.bool false), (.bool false), (WF false (.agg #[.int .i64 st, .int .i64 ck, .int .i64 tr, .slice pc is.length cc, .slice Ac ths.length dc])), (WF false (.agg #[.int .i64 st, .int .i64 ck, .int .i64 tr, .slice pi is.length ci, .slice a ths.length cap])), (WF false (.bool true)), (WF false (.bool false)), (.bool false), (.bool false), (WF false (.agg #[.int .i64 st, .int .i64 ck, .int .i64 tr, .slice pc is.length cc, .slice Ac ths.length dc])), (WF false (.int .i64 ev)), (WF false (.agg #[.int .i64 st, .int .i64 ck, .int .i64 tr, .slice pi is.length ci, .slice a ths.length cap])), (WF false (.int .i64 ev)), (WF false (.bool false)), (.bool false)] : List Value).getD qq undef) (fun w' => Below W5.heap.size W5 w')
  focus (simp [putAll, dstOf, Act.put, List.getD]; rfl)
  case hm => kernel_rfl
  case hd => kernel_rfl
  case hb => kernel_rfl
  case hng => kernel_rfl
  case hsz => kernel_rfl
  case h0 => exact ext_drew (ext_refl _)
  case hstep =>
    refine ⟨?_, ?_, ?_, ?_, ?_, ?_, ?_, ?_, ?_, ?_, ?_, ?_, ?_, ?_, ?_, ?_, ?_, trivial⟩
    · refine ⟨(fun g b h => by cases h), fun w' hG hg ρ h1 h2 h3 h4 h5 => ?_⟩
      have hG := hid hG
      have f2 : ρ (.tmp 2) = .pointer (some ⟨w.heap.size, 0, none⟩) := h5 2 (by kernel_rfl)
      have c0 := later hG.out (HX5.out.cell 0 (v := .int .i64 st) rfl)
      have c1 := later hG.out (HX5.out.cell 1 (v := .int .i64 ck) rfl)
      have c2 := later hG.out (HX5.out.cell 2 (v := .int .i64 tr) rfl)
      have c3 := later hG.out (HX5.out.cell 3 (v := .slice pi is.length ci) rfl)
      have c4 := later hG.out (HX5.out.cell 4 (v := .slice a ths.length cap) rfl)
      all_goals
        try dsimp only [WF, WT] at *
        clear h4 h5 hg
        unfold OpY
        go_simp
        first | exact ⟨rfl, hG.out⟩ | exact ⟨Or.inr rfl, hG.out⟩ | exact ⟨Or.inl rfl, hG.out⟩
    · refine ⟨(fun g b h => by cases h), fun w' hG hg ρ h1 h2 h3 h4 h5 => ?_⟩
      have hG := hid hG
      have f5 : ρ (.tmp 5) = .pointer (some ⟨w4.heap.size, 0, none⟩) := h5 5 (by kernel_rfl)
      have c0 := later hG.out (HXC.out.cell 0 (v := .int .i64 st) rfl)
      have c1 := later hG.out (HXC.out.cell 1 (v := .int .i64 ck) rfl)
      have c2 := later hG.out (HXC.out.cell 2 (v := .int .i64 tr) rfl)
      have c3 := later hG.out (HXC.out.cell 3 (v := .slice pc is.length cc) rfl)
      have c4 := later hG.out (HXC.out.cell 4 (v := .slice Ac ths.length dc) rfl)
      all_goals
        try dsimp only [WF, WT] at *
        clear h4 h5 hg
        unfold OpY
        go_simp
        first | exact ⟨rfl, hG.out⟩ | exact ⟨Or.inr rfl, hG.out⟩ | exact ⟨Or.inl rfl, hG.out⟩
    · refine ⟨(fun g b h => by cases h), fun w' hG hg ρ h1 h2 h3 h4 h5 => ?_⟩
      have hG := hid hG
      have f18 : ρ (.tmp 18) = (.agg #[.int .i64 st, .int .i64 ck, .int .i64 tr, .slice pi is.length ci, .slice a ths.length cap]) := h4 0 18 (by kernel_rfl) (by kernel_rfl)
      have f19 : ρ (.tmp 19) = (.agg #[.int .i64 st, .int .i64 ck, .int .i64 tr, .slice pc is.length cc, .slice Ac ths.length dc]) := h4 1 19 (by kernel_rfl) (by kernel_rfl)
      all_goals
        try dsimp only [WF, WT] at *
        clear h4 h5 hg
        unfold OpY
        go_simp
        unfold OpR
        refine (HSA.out w' hG.out).mono ?_
        rintro e' w2 ⟨rfl, hb2⟩
        exact ⟨_, rfl, (by first | exact rfl | exact Or.inr rfl), ext_trans hG.out hb2⟩
    · refine ⟨(fun g b h => by cases h), fun w' hG hg ρ h1 h2 h3 h4 h5 => ?_⟩
      have hG := hid hG
      have f20 : ρ (.tmp 20) = (.bool true) := h4 2 20 (by kernel_rfl) (by kernel_rfl)
      all_goals
        try dsimp only [WF, WT] at *
        clear h4 h5 hg
        unfold OpY
        go_simp
        first | exact ⟨rfl, hG.out⟩ | exact ⟨Or.inr rfl, hG.out⟩ | exact ⟨Or.inl rfl, hG.out⟩
    · refine ⟨(fun g b h => by cases h), fun w' hG hg ρ h1 h2 h3 h4 h5 => ?_⟩
      have hG := hid hG
      have f21 : ρ (.tmp 21) = (.bool false) := h4 3 21 (by kernel_rfl) (by kernel_rfl)
      all_goals
        try dsimp only [WF, WT] at *
        clear h4 h5 hg
        unfold OpY
        go_simp
        first | exact ⟨rfl, hG.out⟩ | exact ⟨Or.inr rfl, hG.out⟩ | exact ⟨Or.inl rfl, hG.out⟩
    · refine ⟨(fun g b h => by
          obtain ⟨rfl, rfl⟩ := Prod.mk.inj (Option.some.inj h)
          exact ⟨false, rfl, fun h => by first | rfl | exact absurd rfl h⟩), fun w' hG hg ρ h1 h2 h3 h4 h5 => ?_⟩
      have hG := hid hG
      have f5 : ρ (.tmp 5) = .pointer (some ⟨w4.heap.size, 0, none⟩) := h5 5 (by kernel_rfl)
      have c0 := later hG.out (HXC.out.cell 0 (v := .int .i64 st) rfl)
      have c1 := later hG.out (HXC.out.cell 1 (v := .int .i64 ck) rfl)
      have c2 := later hG.out (HXC.out.cell 2 (v := .int .i64 tr) rfl)
      have c3 := later hG.out (HXC.out.cell 3 (v := .slice pc is.length cc) rfl)
      have c4 := later hG.out (HXC.out.cell 4 (v := .slice Ac ths.length dc) rfl)
      all_goals
        try dsimp only [WF, WT] at *
        clear h4 h5 hg
        unfold OpY
        go_simp
        first | exact ⟨rfl, hG.out⟩ | exact ⟨Or.inr rfl, hG.out⟩ | exact ⟨Or.inl rfl, hG.out⟩
    · refine ⟨(fun g b h => by
          obtain ⟨rfl, rfl⟩ := Prod.mk.inj (Option.some.inj h)
          exact ⟨false, rfl, fun h => by first | rfl | exact absurd rfl h⟩), fun w' hG hg ρ h1 h2 h3 h4 h5 => ?_⟩
      have hG := hid hG
      have f2 : ρ (.tmp 2) = .pointer (some ⟨w.heap.size, 0, none⟩) := h5 2 (by kernel_rfl)
      have c0 := later hG.out (HX5.out.cell 0 (v := .int .i64 st) rfl)
      have c1 := later hG.out (HX5.out.cell 1 (v := .int .i64 ck) rfl)
      have c2 := later hG.out (HX5.out.cell 2 (v := .int .i64 tr) rfl)
      have c3 := later hG.out (HX5.out.cell 3 (v := .slice pi is.length ci) rfl)
      have c4 := later hG.out (HX5.out.cell 4 (v := .slice a ths.length cap) rfl)
      all_goals
        try dsimp only [WF, WT] at *
        clear h4 h5 hg
        unfold OpY
        go_simp
        first | exact ⟨rfl, hG.out⟩ | exact ⟨Or.inr rfl, hG.out⟩ | exact ⟨Or.inl rfl, hG.out⟩
    · refine ⟨(fun g b h => by
          obtain ⟨rfl, rfl⟩ := Prod.mk.inj (Option.some.inj h)
          exact ⟨false, rfl, fun h => by first | rfl | exact absurd rfl h⟩), fun w' hG hg ρ h1 h2 h3 h4 h5 => ?_⟩
      have hG := hid hG
      have f23 : ρ (.tmp 23) = (WF false (.agg #[.int .i64 st, .int .i64 ck, .int .i64 tr, .slice pc is.length cc, .slice Ac ths.length dc])) := h4 5 23 (by kernel_rfl) (by kernel_rfl)
      have f24 : ρ (.tmp 24) = (WF false (.agg #[.int .i64 st, .int .i64 ck, .int .i64 tr, .slice pi is.length ci, .slice a ths.length cap])) := h4 6 24 (by kernel_rfl) (by kernel_rfl)
      all_goals
        try dsimp only [WF, WT] at *
        clear h4 h5 hg
        unfold OpY
        go_simp
        unfold OpR
        refine (HSB.out w' hG.out).mono ?_
        rintro e' w2 ⟨rfl, hb2⟩
        exact ⟨_, rfl, (by first | exact rfl | exact Or.inr rfl), ext_trans hG.out hb2⟩
    · refine ⟨(fun g b h => by
          obtain ⟨rfl, rfl⟩ := Prod.mk.inj (Option.some.inj h)
          exact ⟨false, rfl, fun h => by first | rfl | exact absurd rfl h⟩), fun w' hG hg ρ h1 h2 h3 h4 h5 => ?_⟩
      have hG := hid hG
      have f25 : ρ (.tmp 25) = (WF false (.bool true)) := h4 7 25 (by kernel_rfl) (by kernel_rfl)
      all_goals
        try dsimp only [WF, WT] at *
        clear h4 h5 hg
        unfold OpY
        go_simp
        first | exact ⟨rfl, hG.out⟩ | exact ⟨Or.inr rfl, hG.out⟩ | exact ⟨Or.inl rfl, hG.out⟩
    · refine ⟨(fun g b h => by cases h), fun w' hG hg ρ h1 h2 h3 h4 h5 => ?_⟩
      have hG := hid hG
      have f22 : ρ (.tmp 22) = (.bool false) := h4 4 22 (by kernel_rfl) (by kernel_rfl)
      have f26 : ρ (.tmp 26) = (WF false (.bool false)) := h4 8 26 (by kernel_rfl) (by kernel_rfl)
      all_goals
        try dsimp only [WF, WT] at *
        clear h4 h5 hg
        unfold OpY
        go_simp
        first | exact ⟨rfl, hG.out⟩ | exact ⟨Or.inr rfl, hG.out⟩ | exact ⟨Or.inl rfl, hG.out⟩
    · refine ⟨(fun g b h => by cases h), fun w' hG hg ρ h1 h2 h3 h4 h5 => ?_⟩
      have hG := hid hG
      have f27 : ρ (.tmp 27) = (.bool false) := h4 9 27 (by kernel_rfl) (by kernel_rfl)
      all_goals
        try dsimp only [WF, WT] at *
        clear h4 h5 hg
        unfold OpY
        go_simp
        first | exact ⟨rfl, hG.out⟩ | exact ⟨Or.inr rfl, hG.out⟩ | exact ⟨Or.inl rfl, hG.out⟩
    · refine ⟨(fun g b h => by
          obtain ⟨rfl, rfl⟩ := Prod.mk.inj (Option.some.inj h)
          exact ⟨false, rfl, fun h => by first | rfl | exact absurd rfl h⟩), fun w' hG hg ρ h1 h2 h3 h4 h5 => ?_⟩
      have hG := hid hG
      have f5 : ρ (.tmp 5) = .pointer (some ⟨w4.heap.size, 0, none⟩) := h5 5 (by kernel_rfl)
      have c0 := later hG.out (HXC.out.cell 0 (v := .int .i64 st) rfl)
      have c1 := later hG.out (HXC.out.cell 1 (v := .int .i64 ck) rfl)
      have c2 := later hG.out (HXC.out.cell 2 (v := .int .i64 tr) rfl)
      have c3 := later hG.out (HXC.out.cell 3 (v := .slice pc is.length cc) rfl)
      have c4 := later hG.out (HXC.out.cell 4 (v := .slice Ac ths.length dc) rfl)
      all_goals
        try dsimp only [WF, WT] at *
        clear h4 h5 hg
        unfold OpY
        go_simp
        first | exact ⟨rfl, hG.out⟩ | exact ⟨Or.inr rfl, hG.out⟩ | exact ⟨Or.inl rfl, hG.out⟩
    · refine ⟨(fun g b h => by
          obtain ⟨rfl, rfl⟩ := Prod.mk.inj (Option.some.inj h)
          exact ⟨false, rfl, fun h => by first | rfl | exact absurd rfl h⟩), fun w' hG hg ρ h1 h2 h3 h4 h5 => ?_⟩
      have hG := hid hG
      have f29 : ρ (.tmp 29) = (WF false (.agg #[.int .i64 st, .int .i64 ck, .int .i64 tr, .slice pc is.length cc, .slice Ac ths.length dc])) := h4 11 29 (by kernel_rfl) (by kernel_rfl)
      all_goals
        try dsimp only [WF, WT] at *
        clear h4 h5 hg
        unfold OpY
        go_simp
        unfold OpR
        refine (HKB.out w' hG.out).mono ?_
        rintro e' w2 ⟨rfl, hb2⟩
        exact ⟨_, rfl, (by first | exact rfl | exact Or.inr rfl), ext_trans hG.out hb2⟩
    · refine ⟨(fun g b h => by
          obtain ⟨rfl, rfl⟩ := Prod.mk.inj (Option.some.inj h)
          exact ⟨false, rfl, fun h => by first | rfl | exact absurd rfl h⟩), fun w' hG hg ρ h1 h2 h3 h4 h5 => ?_⟩
      have hG := hid hG
      have f2 : ρ (.tmp 2) = .pointer (some ⟨w.heap.size, 0, none⟩) := h5 2 (by kernel_rfl)
      have c0 := later hG.out (HX5.out.cell 0 (v := .int .i64 st) rfl)
      have c1 := later hG.out (HX5.out.cell 1 (v := .int .i64 ck) rfl)
      have c2 := later hG.out (HX5.out.cell 2 (v := .int .i64 tr) rfl)
      have c3 := later hG.out (HX5.out.cell 3 (v := .slice pi is.length ci) rfl)
      have c4 := later hG.out (HX5.out.cell 4 (v := .slice a ths.length cap) rfl)
      all_goals
        try dsimp only [WF, WT] at *
        clear h4 h5 hg
        unfold OpY
        go_simp
        first | exact ⟨rfl, hG.out⟩ | exact ⟨Or.inr rfl, hG.out⟩ | exact ⟨Or.inl rfl, hG.out⟩
    · refine ⟨(fun g b h => by
          obtain ⟨rfl, rfl⟩ := Prod.mk.inj (Option.some.inj h)
          exact ⟨false, rfl, fun h => by first | rfl | exact absurd rfl h⟩), fun w' hG hg ρ h1 h2 h3 h4 h5 => ?_⟩
      have hG := hid hG
      have f31 : ρ (.tmp 31) = (WF false (.agg #[.int .i64 st, .int .i64 ck, .int .i64 tr, .slice pi is.length ci, .slice a ths.length cap])) := h4 13 31 (by kernel_rfl) (by kernel_rfl)
      all_goals
        try dsimp only [WF, WT] at *
        clear h4 h5 hg
        unfold OpY
        go_simp
        unfold OpR
        refine (HKA.out w' hG.out).mono ?_
        rintro e' w2 ⟨rfl, hb2⟩
        exact ⟨_, rfl, (by first | exact rfl | exact Or.inr rfl), ext_trans hG.out hb2⟩
    · refine ⟨(fun g b h => by
          obtain ⟨rfl, rfl⟩ := Prod.mk.inj (Option.some.inj h)
          exact ⟨false, rfl, fun h => by first | rfl | exact absurd rfl h⟩), fun w' hG hg ρ h1 h2 h3 h4 h5 => ?_⟩
      have hG := hid hG
      have f30 : ρ (.tmp 30) = (WF false (.int .i64 ev)) := h4 12 30 (by kernel_rfl) (by kernel_rfl)
      have f32 : ρ (.tmp 32) = (WF false (.int .i64 ev)) := h4 14 32 (by kernel_rfl) (by kernel_rfl)
      all_goals
        try dsimp only [WF, WT] at *
        clear h4 h5 hg
        unfold OpY
        go_simp
        first | exact ⟨rfl, hG.out⟩ | exact ⟨Or.inr rfl, hG.out⟩ | exact ⟨Or.inl rfl, hG.out⟩
    · refine ⟨(fun g b h => by cases h), fun w' hG hg ρ h1 h2 h3 h4 h5 => ?_⟩
      have hG := hid hG
      have f28 : ρ (.tmp 28) = (.bool false) := h4 10 28 (by kernel_rfl) (by kernel_rfl)
      have f33 : ρ (.tmp 33) = (WF false (.bool false)) := h4 15 33 (by kernel_rfl) (by kernel_rfl)
      all_goals
        try dsimp only [WF, WT] at *
        clear h4 h5 hg
        unfold OpY
        go_simp
        first | exact ⟨rfl, hG.out⟩ | exact ⟨Or.inr rfl, hG.out⟩ | exact ⟨Or.inl rfl, hG.out⟩
  case hdone =>
  intro w6 hG6
  have HXC6 := hid (HXC.out.below hG6)
  have HX6 := hid (HX5.out.below hG6)
  have HAT6 := hid (HAT.out.below hG6)
  have HB6 := hid (ext_trans HB5.out hG6)
  have HC6 := hid (fun (W : World) (hb : Below w6.heap.size w6 W) => HCP.out W (ext_trans HB6.out hb))
  clear hG6 HSA HSB HKA HKB HRI HRT HCI HCT HXC HX5 HAT HB5 HW5 HB35
  go_upto_if 40 with fail
  apply wp_region_thenI 9 (AlV st ck tr is ths (.agg #[.int .i64 st, .int .i64 ck, .int .i64 tr, .slice pi is.length ci, .slice a ths.length cap]) w6.heap.size) (fun w' => Below w6.heap.size w6 w') (AlS st ck tr is ths w6)
  focus (intro vals; simp [putAll, dstOf, Act.put, List.getD]; rfl)
  case hm => kernel_rfl
  case hd => kernel_rfl
  case hb => kernel_rfl
  case hng => kernel_rfl
  case hsz => kernel_rfl
  case hN => rfl
  case htail => kernel_rfl
  case hstab => exact fun i x iv w1 w2 h hb => h.stab hb
  case h0 => exact ext_drew (ext_refl _)
  case hstart => exact fun vs w' I hG hV => AlS.start hG hV
  case hstepA =>
    refine ⟨?_, ?_, ?_, ?_, ?_, ?_, ?_, ?_, ?_, trivial⟩
    all_goals (
      refine ⟨rfl, fun w' hG ρ h1 h2 h3 h4 h5 => ?_⟩
      have hG := hid hG)
    · have f2 : ρ (.tmp 2) = .pointer (some ⟨w.heap.size, 0, none⟩) := h5 2 (by kernel_rfl)
      have c0 := later hG.out (HX6.out.cell 0 (v := .int .i64 st) rfl)
      have c1 := later hG.out (HX6.out.cell 1 (v := .int .i64 ck) rfl)
      have c2 := later hG.out (HX6.out.cell 2 (v := .int .i64 tr) rfl)
      have c3 := later hG.out (HX6.out.cell 3 (v := .slice pi is.length ci) rfl)
      have c4 := later hG.out (HX6.out.cell 4 (v := .slice a ths.length cap) rfl)
      clear h4 h5
      unfold OpY
      go_simp
      exact ⟨rfl, hG.out, ext_refl _⟩
    · obtain ⟨_, hv⟩ := h4 0 35 (by kernel_rfl) (by kernel_rfl)
      have f35 : ρ (.tmp 35) = .agg #[.int .i64 st, .int .i64 ck, .int .i64 tr, .slice pi is.length ci, .slice a ths.length cap] := hv
      clear h4 h5 hv
      unfold OpY
      go_simp
      unfold OpR
      refine (HC6.out w' hG.out).mono ?_
      rintro e' w2 hcp
      obtain ⟨p, c, A, d, B, rfl, hb2, hat⟩ := CpAt.of hcp
      exact ⟨_, rfl, ⟨p, c, A, d, B, rfl, hG.out.size, hat⟩, ext_trans hG.out hb2, hb2⟩
    · have f2 : ρ (.tmp 2) = .pointer (some ⟨w.heap.size, 0, none⟩) := h5 2 (by kernel_rfl)
      have c0 := later hG.out (HX6.out.cell 0 (v := .int .i64 st) rfl)
      have c1 := later hG.out (HX6.out.cell 1 (v := .int .i64 ck) rfl)
      have c2 := later hG.out (HX6.out.cell 2 (v := .int .i64 tr) rfl)
      have c3 := later hG.out (HX6.out.cell 3 (v := .slice pi is.length ci) rfl)
      have c4 := later hG.out (HX6.out.cell 4 (v := .slice a ths.length cap) rfl)
      clear h4 h5
      unfold OpY
      go_simp
      exact ⟨rfl, hG.out, ext_refl _⟩
    · obtain ⟨_, hv⟩ := h4 2 37 (by kernel_rfl) (by kernel_rfl)
      have f37 : ρ (.tmp 37) = .agg #[.int .i64 st, .int .i64 ck, .int .i64 tr, .slice pi is.length ci, .slice a ths.length cap] := hv
      clear h4 h5 hv
      unfold OpY
      go_simp
      unfold OpR
      refine (HC6.out w' hG.out).mono ?_
      rintro e' w2 hcp
      obtain ⟨p, c, A, d, B, rfl, hb2, hat⟩ := CpAt.of hcp
      exact ⟨_, rfl, ⟨p, c, A, d, B, rfl, hG.out.size, hat⟩, ext_trans hG.out hb2, hb2⟩
    · have f2 : ρ (.tmp 2) = .pointer (some ⟨w.heap.size, 0, none⟩) := h5 2 (by kernel_rfl)
      have c0 := later hG.out (HX6.out.cell 0 (v := .int .i64 st) rfl)
      have c1 := later hG.out (HX6.out.cell 1 (v := .int .i64 ck) rfl)
      have c2 := later hG.out (HX6.out.cell 2 (v := .int .i64 tr) rfl)
      have c3 := later hG.out (HX6.out.cell 3 (v := .slice pi is.length ci) rfl)
      have c4 := later hG.out (HX6.out.cell 4 (v := .slice a ths.length cap) rfl)
      clear h4 h5
      unfold OpY
      go_simp
      exact ⟨rfl, hG.out, ext_refl _⟩
    · obtain ⟨_, hv⟩ := h4 4 39 (by kernel_rfl) (by kernel_rfl)
      have f39 : ρ (.tmp 39) = .agg #[.int .i64 st, .int .i64 ck, .int .i64 tr, .slice pi is.length ci, .slice a ths.length cap] := hv
      clear h4 h5 hv
      unfold OpY
      go_simp
      unfold OpR
      refine (HC6.out w' hG.out).mono ?_
      rintro e' w2 hcp
      obtain ⟨p, c, A, d, B, rfl, hb2, hat⟩ := CpAt.of hcp
      exact ⟨_, rfl, ⟨p, c, A, d, B, rfl, hG.out.size, hat⟩, ext_trans hG.out hb2, hb2⟩
    · clear h4 h5
      unfold OpY
      go_simp
      exact ⟨⟨rfl, hG.out.size, by simp, Blk.new _ _ _⟩, ext_alloc hG.out _, ext_alloc (ext_refl _) _⟩
    · clear h4 h5
      unfold OpY
      go_simp
      exact ⟨⟨rfl, hG.out.size, by simp, Blk.new _ _ _⟩, ext_alloc hG.out _, ext_alloc (ext_refl _) _⟩
    · clear h4 h5
      unfold OpY
      go_simp
      exact ⟨⟨rfl, hG.out.size, by simp, Blk.new _ _ _⟩, ext_alloc hG.out _, ext_alloc (ext_refl _) _⟩
  case hstepB =>
    refine ⟨?_, ?_, ?_, trivial⟩
    all_goals (
      refine ⟨rfl, fun vs w' hS ρ h1 h2 h3 h4 h5 => ?_⟩
      obtain ⟨l1, u1, l3, u3, l5, u5, b6, b7, b8, p1, c1, A1, d1, B1, p3, c3, A3, d3, B3, p5, c5, A5, d5, B5, hC, q1, q3, q5, q6, q7, q8⟩ := hS
      have HC := hid hC)
    · have fa := (h4 6 6 (by kernel_rfl) (by kernel_rfl)).trans q6
      have fv := (h4 1 36 (by kernel_rfl) (by kernel_rfl)).trans q1
      have hy : Blk w' b6 ZS 25 := by simpa using hC.y6
      have z0 := hy.cell 0 rfl
      have z1 := hy.cell 1 rfl
      have z2 := hy.cell 2 rfl
      have z3 := hy.cell 3 rfl
      have z4 := hy.cell 4 rfl
      have zf := fun n => hy.free n
      have zl := hy.lt
      have hq1 := hid q1
      have hq3 := hid q3
      have hq5 := hid q5
      have hq6 := hid q6
      have hq7 := hid q7
      have hq8 := hid q8
      clear h4 h5 hC hy q1 q3 q5 q6 q7 q8
      unfold OpY
      go_simp
      exact ⟨l1, u1, l3, u3, l5, u5, b6, b7, b8, p1, c1, A1, d1, B1, p3, c3, A3, d3, B3, p5, c5, A5, d5, B5, HC.out.s6, by simpa [doneV] using hq1.out, by simpa [doneV] using hq3.out, by simpa [doneV] using hq5.out, by simpa [doneV] using hq6.out, by simpa [doneV] using hq7.out, by simpa [doneV] using hq8.out⟩
    · have fa := (h4 7 7 (by kernel_rfl) (by kernel_rfl)).trans q7
      have fv := (h4 3 38 (by kernel_rfl) (by kernel_rfl)).trans q3
      have hy : Blk w' b7 ZS 25 := by simpa using hC.y7
      have z0 := hy.cell 0 rfl
      have z1 := hy.cell 1 rfl
      have z2 := hy.cell 2 rfl
      have z3 := hy.cell 3 rfl
      have z4 := hy.cell 4 rfl
      have zf := fun n => hy.free n
      have zl := hy.lt
      have hq1 := hid q1
      have hq3 := hid q3
      have hq5 := hid q5
      have hq6 := hid q6
      have hq7 := hid q7
      have hq8 := hid q8
      clear h4 h5 hC hy q1 q3 q5 q6 q7 q8
      unfold OpY
      go_simp
      exact ⟨l1, u1, l3, u3, l5, u5, b6, b7, b8, p1, c1, A1, d1, B1, p3, c3, A3, d3, B3, p5, c5, A5, d5, B5, HC.out.s7, by simpa [doneV] using hq1.out, by simpa [doneV] using hq3.out, by simpa [doneV] using hq5.out, by simpa [doneV] using hq6.out, by simpa [doneV] using hq7.out, by simpa [doneV] using hq8.out⟩
    · have fa := (h4 8 8 (by kernel_rfl) (by kernel_rfl)).trans q8
      have fv := (h4 5 40 (by kernel_rfl) (by kernel_rfl)).trans q5
      have hy : Blk w' b8 ZS 25 := by simpa using hC.y8
      have z0 := hy.cell 0 rfl
      have z1 := hy.cell 1 rfl
      have z2 := hy.cell 2 rfl
      have z3 := hy.cell 3 rfl
      have z4 := hy.cell 4 rfl
      have zf := fun n => hy.free n
      have zl := hy.lt
      have hq1 := hid q1
      have hq3 := hid q3
      have hq5 := hid q5
      have hq6 := hid q6
      have hq7 := hid q7
      have hq8 := hid q8
      clear h4 h5 hC hy q1 q3 q5 q6 q7 q8
      unfold OpY
      go_simp
      exact ⟨l1, u1, l3, u3, l5, u5, b6, b7, b8, p1, c1, A1, d1, B1, p3, c3, A3, d3, B3, p5, c5, A5, d5, B5, HC.out.s8, by simpa [doneV] using hq1.out, by simpa [doneV] using hq3.out, by simpa [doneV] using hq5.out, by simpa [doneV] using hq6.out, by simpa [doneV] using hq7.out, by simpa [doneV] using hq8.out⟩
  case hdone =>
  intro vals W0 hS
  obtain ⟨l1, u1, l3, u3, l5, u5, b6, b7, b8, p1, c1, A1, d1, B1, p3, c3, A3, d3, B3, p5, c5, A5, d5, B5, hC, q1, q3, q5, q6, q7, q8⟩ := hS
  obtain ⟨hb0, hD, hk1, hk3, hk5, hy6, hy7, hy8⟩ := hC
  replace hy6 : Blk W0 b6 #[.int .i64 st, .int .i64 ck, .int .i64 tr, .slice p1 is.length c1, .slice A1 ths.length d1] 25 := by simpa using hy6
  replace hy7 : Blk W0 b7 #[.int .i64 st, .int .i64 ck, .int .i64 tr, .slice p3 is.length c3, .slice A3 ths.length d3] 25 := by simpa using hy7
  replace hy8 : Blk W0 b8 #[.int .i64 st, .int .i64 ck, .int .i64 tr, .slice p5 is.length c5, .slice A5 ths.length d5] 25 := by simpa using hy8
  rw [q6, q7, q8]
  clear q1 q3 q5 q6 q7 q8
  have HD := hid hD
  have HK1 := hid hk1
  have HK3 := hid hk3
  have HK5 := hid hk5
  have HY6 := hid hy6
  have HY7 := hid hy7
  have HY8 := hid hy8
  have HX0 := hid (HX6.out.below hb0)
  have HXC0 := hid (HXC6.out.below hb0)
  have HAT0 := hid (HAT6.out.below hb0)
  have HB0 := hid (ext_trans HB6.out hb0)
  have HL6 : Hid (w.heap.size < w6.heap.size ∧ w4.heap.size < w6.heap.size) := hid ⟨HX6.out.lt, HXC6.out.lt⟩
  have g6 := hD.g
  have s1 := HX0.out.cell 1 (v := .int .i64 ck) rfl
  have s1l := HX0.out.lt
  have y1 := hy6.cell 1 (v := .int .i64 ck) rfl
  have y1f := hy6.free 1
  have y1l := hy6.lt
  clear hb0 hD hk1 hk3 hk5 hy6 hy7 hy8 HX6 HXC6 HAT6 HC6
  obtain ⟨cx, hcx, hcn⟩ : ∃ cx, bits BinOp.xor IntKind.i64 ck 1 = cx ∧ cx ≠ ck := ⟨_, rfl, xor_one_ne ck⟩
  have HCN := hid hcn
  have n67 := HD.out.n67
  have n68 := HD.out.n68
  have n78 := HD.out.n78
  have n76 := HD.out.n67.symm
  have n86 := HD.out.n68.symm
  have n87 := HD.out.n78.symm
  have o3 := HK3.out.owns
  have h3 := HK3.out.hi
  have h5 := HK5.out.hi
  have h1 := HK1.out.hi
  have r63 : (Value.slice p3 is.length c3).ownBlock ≠ some b6 := fun he => by have := o3.2 b6 he; have := HD.out.b63; unfold OutI at this; omega
  have r73 : (Value.slice p3 is.length c3).ownBlock ≠ some b7 := fun he => by have := o3.2 b7 he; have := HD.out.b73; unfold OutI at this; omega
  have r83 : (Value.slice p3 is.length c3).ownBlock ≠ some b8 := fun he => by have := o3.2 b8 he; have := HD.out.b83; unfold OutI at this; omega
  have hw1 : ∀ g, (Value.slice p3 is.length c3).ownBlock = some g → ((W0.setCell ⟨b6, 1, none⟩ (.int .i64 cx)).alloc (.cells #[.int .i64 5] 2)).heap[g]? = W0.heap[g]? := fun g hg => by
    have hgl := o3.1.lt g hg
    rw [(ext_alloc (ext_refl (W0.setCell ⟨b6, 1, none⟩ (.int .i64 cx))) _).block g (by rw [size_setCell]; exact hgl.2)]
    exact Below.heap_setCell W0 _ _ g (fun he => r63 (by rw [hg]; exact congrArg some he))
  have HOA := hid (ownsRow_frame o3.1 hw1)
  obtain ⟨ti, hti, hz0, hz1, hz2⟩ := info_parts infoI64
  obtain ⟨tj, htj, hy0, hy1, hy2⟩ := info_parts infoTh
  obtain ⟨nw5, hrow5, hown5⟩ := HK5.out.row
  have HROW5 := hid hrow5
  have HOWN5 := hid hown5
  have R63 := hid r63
  have R73 := hid r73
  have R83 := hid r83
  have H1 := hid h1
  have H3 := hid h3
  have H5 := hid h5
  have HO3 := hid o3.2
  have HW0s : Hid (l3 ≤ ((W0.setCell ⟨b6, 1, none⟩ (.int .i64 cx)).alloc (.cells #[.int .i64 5] 2)).heap.size) := hid (by simp [size_setCell]; omega)
  have hm1 : is.length + 1 ≤ maxLen := by unfold maxLen; have := HL1.out; omega
  have hm2 : (is.length + 1) * 8 ≤ 140737488355328 := by have := HL1.out; omega
  have HM1 := hid hm1
  have HM2 := hid hm2
  have hm3 : ths.length + 1 ≤ maxLen := by unfold maxLen; have := HL2.out; omega
  have hm4 : (ths.length + 1) * 24 ≤ 140737488355328 := by have := HL2.out; omega
  have HM3 := hid hm3
  have HM4 := hid hm4
  have y73 := HY7.out.cell 3 (v := .slice p3 is.length c3) rfl
  have y7l := HY7.out.lt
  clear hcn o3 h3 h5 h1 r63 r73 r83 hw1 hrow5 hown5 hm1 hm2 hm3 hm4
  go_wp2_with (first
    | (at_builtin; refine wpList_append_own_at _ rfl (.tmp 46) (.tmp 47) 22 rfl l3 2 ti _ 1 8 Try.underlying22 hti hz0 hz1 hz2 rfl (by decide) (.slice p3 is.length c3) is.length (is.map (Value.int .i64)) rfl HOA.out ⟨W0.heap.size, 0, none⟩ 1 1 [.int .i64 5] rfl rfl (by have := cell_one_new (W0.setCell ⟨b6, 1, none⟩ (.int .i64 cx)) (.int .i64 5) 2; rwa [size_setCell] at this) (by simp [Value.oneCell']) HM1.out HM2.out HW0s.out ?_
       intro v' W2 hown2 hgr2 _hn hd2
       obtain ⟨pb, cb, rfl⟩ := owns_slice hown2
       have HOWN2 := hid hown2
       have HGR2 := hid hgr2
       have HHD2 : Hid ((Value.slice pb (is.length + 1) cb).ownBlock = (Value.slice p3 is.length c3).ownBlock ∨ (Value.slice pb (is.length + 1) cb).ownBlock = some ((W0.setCell ⟨b6, 1, none⟩ (.int .i64 cx)).alloc (.cells #[.int .i64 5] 2)).heap.size) := hid hd2
       have b7W2 := blk_keep HY7.out (step_keep hgr2 b7 HY7.out.lt n76 R73.out)
       have b8W2 := blk_keep HY8.out (step_keep hgr2 b8 HY8.out.lt n86 R83.out)
       have b6W2 := step_box hgr2 HY6.out R63.out
       have k5 := HK5.out.agree (step_agree hgr2 H5.out.1 HD.out.b65 (fun g hg => by have h1 := HO3.out g hg; have h2 := HD.out.a35; have h3 := H3.out; unfold OutI; omega)) (by have := step_size hgr2; have := H5.out; omega)
       have hrx : Agree l5 u5 W2 (W2.setCell ⟨b7, 3, none⟩ (.slice pb (is.length + 1) cb)) := agree_set_out HD.out.b75
       obtain ⟨nw5, hrow5, hown5⟩ := (k5.agree hrx (by rw [size_setCell]; exact k5.hi.1)).row
       have HROW5 := hid hrow5
       have HOWN5 := hid hown5
       have HOB := hid (ownsRow_frame (w' := (W2.setCell ⟨b7, 3, none⟩ (.slice pb (is.length + 1) cb)).alloc (.cells #[.slice none 0 0] 32)) hrow5.1 (fun g hg => (ext_alloc (ext_refl (W2.setCell ⟨b7, 3, none⟩ (.slice pb (is.length + 1) cb))) _).block g (hrow5.1.lt g hg).2))
       have HBS : Hid (B5 ≤ ((W2.setCell ⟨b7, 3, none⟩ (.slice pb (is.length + 1) cb)).alloc (.cells #[.slice none 0 0] 32)).heap.size) := hid (by have := hrow5.2.1; simp at this ⊢; omega)
       have x73 := b7W2.cell 3 (v := .slice p3 is.length c3) rfl
       have x7f := b7W2.free 3
       have x7l := b7W2.lt
       have x84 := b8W2.cell 4 (v := .slice A5 ths.length d5) rfl
       have x8l := b8W2.lt
       have HB6' := hid b6W2
       have HB7 := hid b7W2
       have HB8 := hid b8W2
       clear hown2 hgr2 hd2 b7W2 b8W2 b6W2 k5 hrx hrow5 hown5 y73 y7l s1 s1l y1 y1f y1l)
    | (at_builtin; refine wpList_append_own_at _ rfl (.tmp 51) (.tmp 52) 23 rfl B5 32 tj _ 1 24 Try.underlying23 htj hy0 hy1 hy2 rfl (by decide) (.slice A5 ths.length d5) ths.length nw5 rfl HOB.out ⟨W2.heap.size, 0, none⟩ 1 1 [.slice none 0 0] rfl rfl (by have := cell_one_new (W2.setCell ⟨b7, 3, none⟩ (.slice pb (is.length + 1) cb)) (.slice none 0 0) 32; rwa [size_setCell] at this) (by simp [Value.oneCell']) HM3.out HM4.out HBS.out ?_
       intro v' W4 hown4 hgr4 _hn hd4
       obtain ⟨pd, cd, rfl⟩ := owns_slice hown4
       have hro : ∀ g, (Value.slice A5 ths.length d5).ownBlock = some g → B5 ≤ g ∧ g < u5 := HOWN5.out
       have hnb : ∀ b, OutI b l5 u5 → (Value.slice A5 ths.length d5).ownBlock ≠ some b := fun b hb he => by have h1 := hro b he; have h2 := H5.out; unfold OutI at hb; omega
       have HNB := hid hnb
       have HHD : Hid ((Value.slice pd (ths.length + 1) cd).ownBlock = (Value.slice A5 ths.length d5).ownBlock ∨ (Value.slice pd (ths.length + 1) cd).ownBlock = some ((W2.setCell ⟨b7, 3, none⟩ (.slice pb (is.length + 1) cb)).alloc (.cells #[.slice none 0 0] 32)).heap.size) := hid hd4
       have HST := hid (rowG_step (R := R1 (RdThO l5)) (l := ths ++ [[]]) (cs := [.slice none 0 0]) (by simp) (rowG_more HROW5.out (Nat.le_refl _)) rfl (ext_refl _) (fun w'' _ => by
         refine ⟨.slice none 0 0, rfl, ⟨⟨none, 0, ?_, ?_, ?_⟩, none, 0, ?_, ?_⟩, ?_⟩ <;> simp) (ext_alloc (ext_refl (W2.setCell ⟨b7, 3, none⟩ (.slice pb (is.length + 1) cb))) (.cells #[.slice none 0 0] 32)) hown4 hgr4 hd4)
       have HGR4 := hid hgr4
       have b6W4 := blk_keep HB6'.out (step_keep hgr4 b6 HB6'.out.lt n67 (hnb b6 HD.out.b65))
       have b7W4 := step_box hgr4 HB7.out (hnb b7 HD.out.b75)
       have b8W4 := blk_keep HB8.out (step_keep hgr4 b8 HB8.out.lt n87 (hnb b8 HD.out.b85))
       have hl6 := HL6.out
       have asW4 := blk_keep (blk_keep HX0.out (step_keep HGR2.out w.heap.size HX0.out.lt (by omega) (fun he => by have := HO3.out _ he; omega))) (step_keep hgr4 w.heap.size (by have := step_size HGR2.out; have := HX0.out.lt; omega) (by omega) (fun he => by have := hro _ he; have := H5.out; omega))
       have z0 := b6W4.cell 0 (v := .int .i64 st) (by simp)
       have z1 := b6W4.cell 1 (v := .int .i64 cx) (by simp)
       have z2 := b6W4.cell 2 (v := .int .i64 tr) (by simp)
       have z3 := b6W4.cell 3 (v := .slice p1 is.length c1) (by simp)
       have z4 := b6W4.cell 4 (v := .slice A1 ths.length d1) (by simp)
       have z6l := b6W4.lt
       have t0 := asW4.cell 0 (v := .int .i64 st) rfl
       have t1 := asW4.cell 1 (v := .int .i64 ck) rfl
       have t2 := asW4.cell 2 (v := .int .i64 tr) rfl
       have t3 := asW4.cell 3 (v := .slice pi is.length ci) rfl
       have t4 := asW4.cell 4 (v := .slice a ths.length cap) rfl
       have tl := asW4.lt
       have t84 := b8W4.cell 4 (v := .slice A5 ths.length d5) rfl
       have t8f := b8W4.free 4
       have t8l := b8W4.lt
       have tn1 : ¬ b8 = w.heap.size := by omega
       have tn2 : ¬ w.heap.size = b8 := by omega
       have HC6 := hid b6W4
       have HC7 := hid b7W4
       have HC8 := hid b8W4
       have HCS := hid asW4
       clear hown4 hgr4 hd4 hro hnb b6W4 b7W4 b8W4 asW4 hl6 x73 x7f x7l x84 x8l)
    | fail)
  have hag4 : ∀ {lo hi : Nat}, hi ≤ W0.heap.size → OutI b6 lo hi → OutI b7 lo hi → (∀ g, (Value.slice p3 is.length c3).ownBlock = some g → OutI g lo hi) → (∀ g, (Value.slice A5 ths.length d5).ownBlock = some g → OutI g lo hi) → Agree lo hi W0 W4 := fun hh o6 o7 o3 o5 =>
    (step_agree HGR2.out hh o6 o3).trans (step_agree HGR4.out (Nat.le_trans hh (Nat.le_of_lt (step_size HGR2.out))) o7 o5)
  have hs4 : W0.heap.size < W4.heap.size := Nat.lt_trans (step_size HGR2.out) (step_size HGR4.out)
  have hl6 := HL6.out
  have hro : ∀ g, (Value.slice A5 ths.length d5).ownBlock = some g → l5 ≤ g ∧ g < u5 := fun g hg => by have := HOWN5.out g hg; have := H5.out; omega
  have hro3 : ∀ g, (Value.slice p3 is.length c3).ownBlock = some g → l3 ≤ g ∧ g < B3 := HO3.out
  have hD := HD.out
  have hh1 := H1.out
  have hh3 := H3.out
  have hh5 := H5.out
  obtain ⟨W5, hW5⟩ : ∃ W5, W5 = W4.setCell ⟨b8, 4, none⟩ (.slice pd (ths.length + 1) cd) := ⟨_, rfl⟩
  have hs5 : W5.heap.size = W4.heap.size := by rw [hW5, size_setCell]
  have hag5 : ∀ {lo hi : Nat}, OutI b8 lo hi → Agree lo hi W4 W5 := fun o8 => by rw [hW5]; exact agree_set_out o8
  have hb5 : Below w.heap.size w W5 := by
    have h1 : Below w.heap.size w W4 := by
      have e1 := (ext_alloc (ext_set HB0.out (p := ⟨b6, 1, none⟩) (by dsimp only; omega) (.int .i64 cx)) (.cells #[.int .i64 5] 2)).grown HGR2.out (by simp; omega) (fun g hg => by have := hro3 g hg; omega)
      exact (ext_alloc (ext_set e1 (p := ⟨b7, 3, none⟩) (by dsimp only; omega) (.slice pb (is.length + 1) cb)) (.cells #[.slice none 0 0] 32)).grown HGR4.out (by simp; have := step_size HGR2.out; omega) (fun g hg => by have := hro g hg; omega)
    rw [hW5]; exact ext_set h1 (by dsimp only; omega) _
  have hout := hD
  have u1 : CpAt l1 u1 B1 is ths (.slice p1 is.length c1) (.slice A1 ths.length d1) W5 := (HK1.out.agree (hag4 hh1.1 hD.b61 hD.b71 (fun g hg => by have := hro3 g hg; have := hD.a13; unfold OutI; omega) (fun g hg => by have := hro g hg; have := hD.a15; unfold OutI; omega)) (by omega)).agree (hag5 hD.b81) (by omega)
  have uc : CpAt w3.heap.size w4.heap.size Bc is ths (.slice pc is.length cc) (.slice Ac ths.length dc) W5 := (HAT0.out.agree (hag4 (by have := HAT0.out.hi; omega) (by unfold OutI; omega) (by unfold OutI; omega) (fun g hg => by have := hro3 g hg; unfold OutI; omega) (fun g hg => by have := hro g hg; unfold OutI; omega)) (by have := HAT0.out.hi; omega)).agree (hag5 (by unfold OutI; omega)) (by have := HAT0.out.hi; omega)
  have ub : RdThs W5 ths (.slice A3 ths.length d3) := HK3.out.ths' HLN.out ((hag4 (by omega) (by have := hD.b63; unfold OutI at *; omega) (by have := hD.b73; unfold OutI at *; omega) (fun g hg => by have := hro3 g hg; unfold OutI; omega) (fun g hg => by have := hro g hg; have := hD.a35; unfold OutI; omega)).trans (hag5 (by have := hD.b83; unfold OutI at *; omega)))
  have ubi : RdInts W5 (is ++ [5]) (.slice pb (is.length + 1) cb) := ints_more HRG.out (by omega) HOWN2.out W5 (fun g hg => by
    have hgl := HOWN2.out.lt g hg
    have hor : (l3 ≤ g ∧ g < B3) ∨ W0.heap.size ≤ g := by
      rcases HHD2.out with h | h
      · exact .inl (hro3 g (h ▸ hg))
      · rw [h] at hg
        have := Option.some.inj hg
        right
        rw [← this]
        simp [size_setCell]
    have l7 := HY7.out.lt
    have l8 := HY8.out.lt
    have e7 := hD.b73
    have e8 := hD.b83
    have h8 : g ≠ b8 := fun he => by unfold OutI at e8; omega
    have h7 : g ≠ b7 := fun he => by unfold OutI at e7; omega
    have hr : (Value.slice A5 ths.length d5).ownBlock ≠ some g := fun he => by have := hro g he; have := hD.a35; omega
    rw [hW5, Below.heap_setCell _ _ _ g (by dsimp only; omega), step_keep HGR4.out g hgl.2 h7 hr])
  have hcsc := blk_keep (blk_keep HXC0.out (step_keep HGR2.out w4.heap.size HXC0.out.lt (by omega) (fun he => by have := hro3 _ he; omega))) (step_keep HGR4.out w4.heap.size (by have := step_size HGR2.out; have := HXC0.out.lt; omega) (by omega) (fun he => by have := hro _ he; omega))
  have hxc5 : Blk W5 w4.heap.size #[.int .i64 st, .int .i64 ck, .int .i64 tr, .slice pc is.length cc, .slice Ac ths.length dc] 25 := by rw [hW5]; exact hcsc.set_other _ _ (by dsimp only; omega)
  have hxs5 : Blk W5 w.heap.size #[.int .i64 st, .int .i64 ck, .int .i64 tr, .slice pi is.length ci, .slice a ths.length cap] 25 := by rw [hW5]; exact HCS.out.set_other _ _ (by dsimp only; omega)
  have hx7 : Blk W5 b7 #[.int .i64 st, .int .i64 ck, .int .i64 tr, .slice pb (is.length + 1) cb, .slice A3 ths.length d3] 25 := by rw [hW5]; simpa using HC7.out.set_other _ _ (by dsimp only; omega)
  have hx8 : Blk W5 b8 #[.int .i64 st, .int .i64 ck, .int .i64 tr, .slice p5 is.length c5, .slice pd (ths.length + 1) cd] 25 := by rw [hW5]; simpa using HC8.out.set 4 (.slice pd (ths.length + 1) cd)
  have u5i : ∀ W, Below W5.heap.size W5 W → RdInts W is (.slice p5 is.length c5) := fun W hb => HK5.out.ints' HRG.out (fun g hg => by
    have hg5 := HK5.out.owns.2 g hg
    rw [hb.block g (by omega), hW5, Below.heap_setCell _ _ _ g (by have := hD.b85; unfold OutI at this; dsimp only; omega), step_keep HGR4.out g (by have := step_size HGR2.out; omega) (by have := hD.b75; unfold OutI at this; omega) (fun he => by have := HOWN5.out g he; omega), step_keep HGR2.out g (by omega) (by have := hD.b65; unfold OutI at this; omega) (fun he => by have := hro3 g he; have := hD.a35; omega)])
  have HX5c := hid hxc5
  have HX5s := hid hxs5
  have HX57 := hid hx7
  have HX58 := hid hx8
  have HB5 := hid hb5
  have HRI := hid (fun (W : World) (hb : Below W5.heap.size W5 W) => (HI.out.below (ext_trans hb5 hb)))
  have HRT := hid (fun (W : World) (hb : Below W5.heap.size W5 W) => (HR.out.below (ext_trans hb5 hb)))
  have HS1 := hid (fun (W : World) (hb : Below W5.heap.size W5 W) => susame_any st cx tr st ck tr is is ths ths _ _ _ _ W ((u1.below hb).ints' HRG.out (fun _ _ => rfl)) (HRI.out W hb) ((u1.below hb).ths' HLN.out (Agree.refl _ _ _)) (HRT.out W hb) false (by simp [HCN.out]))
  have HS3 := hid (fun (W : World) (hb : Below W5.heap.size W5 W) => susame_any st ck tr st ck tr (is ++ [5]) is ths ths (.slice pb (is.length + 1) cb) _ _ _ W (ubi.below hb) (HRI.out W hb) (ub.below hb) (HRT.out W hb) false (by simp))
  have HS5 := hid (fun (W : World) (hb : Below W5.heap.size W5 W) => susame_no st ck tr is (ths.length + 1) ths.length (by omega) p5 pi pd a c5 ci cd cap W (u5i W hb) (HRI.out W hb))
  have HUC := hid uc
  have HCLO : Hid (w.heap.size ≤ w3.heap.size) := hid HB3.out.size
  rw [← hW5]
  clear hag4 hs4 hl6 hro hro3 hD hh1 hh3 hh5 hs5 hag5 hout u1 uc ub ubi u5i hcsc hxc5 hxs5 hx7 hx8 hb5 hW5 z0 z1 z2 z3 z4 z6l t0 t1 t2 t3 t4 tl t84 t8f t8l tn1 tn2 hcx
  refine (HS1.out _ (ext_refl _)).mono ?_
  rintro e w7 ⟨rfl, hb7⟩
  have t0 := later hb7 (HX5s.out.cell 0 (v := .int .i64 st) rfl)
  have t1 := later hb7 (HX5s.out.cell 1 (v := .int .i64 ck) rfl)
  have t2 := later hb7 (HX5s.out.cell 2 (v := .int .i64 tr) rfl)
  have t3 := later hb7 (HX5s.out.cell 3 (v := .slice pi is.length ci) rfl)
  have t4 := later hb7 (HX5s.out.cell 4 (v := .slice a ths.length cap) rfl)
  have z0 := later hb7 (HX57.out.cell 0 (v := .int .i64 st) rfl)
  have z1 := later hb7 (HX57.out.cell 1 (v := .int .i64 ck) rfl)
  have z2 := later hb7 (HX57.out.cell 2 (v := .int .i64 tr) rfl)
  have z3 := later hb7 (HX57.out.cell 3 (v := .slice pb (is.length + 1) cb) rfl)
  have z4 := later hb7 (HX57.out.cell 4 (v := .slice A3 ths.length d3) rfl)
  have tl := lt_of_cell t0
  have zl := lt_of_cell z0
  go_wp2_with fail
  refine (HS3.out _ hb7).mono ?_
  rintro e w8 ⟨rfl, hb8⟩
  have hb58 := ext_trans hb7 hb8
  clear t0 t1 t2 t3 t4 z0 z1 z2 z3 z4 tl zl
  have t0 := later hb58 (HX5s.out.cell 0 (v := .int .i64 st) rfl)
  have t1 := later hb58 (HX5s.out.cell 1 (v := .int .i64 ck) rfl)
  have t2 := later hb58 (HX5s.out.cell 2 (v := .int .i64 tr) rfl)
  have t3 := later hb58 (HX5s.out.cell 3 (v := .slice pi is.length ci) rfl)
  have t4 := later hb58 (HX5s.out.cell 4 (v := .slice a ths.length cap) rfl)
  have z0 := later hb58 (HX58.out.cell 0 (v := .int .i64 st) rfl)
  have z1 := later hb58 (HX58.out.cell 1 (v := .int .i64 ck) rfl)
  have z2 := later hb58 (HX58.out.cell 2 (v := .int .i64 tr) rfl)
  have z3 := later hb58 (HX58.out.cell 3 (v := .slice p5 is.length c5) rfl)
  have z4 := later hb58 (HX58.out.cell 4 (v := .slice pd (ths.length + 1) cd) rfl)
  have tl := lt_of_cell t0
  have zl := lt_of_cell z0
  go_wp2_with fail
  refine (HS5.out _ hb58).mono ?_
  rintro e w9 ⟨rfl, hb9⟩
  have hb59 := ext_trans hb58 hb9
  have HX9s := hid (HX5s.out.below hb59)
  have HX9c := hid (HX5c.out.below hb59)
  have HUC9 := hid (HUC.out.below hb59)
  have HB9 := hid (ext_trans HB5.out hb59)
  clear t0 t1 t2 t3 t4 z0 z1 z2 z3 z4 tl zl hb7 hb8 hb58 hb9 hb59 HS1 HS3 HS5 HRI HRT
  have t3 := HX9s.out.cell 3 (v := .slice pi is.length ci) rfl
  have tl := HX9s.out.lt
  by_cases hl0 : is.length = 0
  · have z1 : ((is.length : Int) == 0) = true := by rw [beq_iff_eq]; omega
    have hf := HB9.out
    go_wp2_with fail
    go_ret
    exact ⟨rfl, hf⟩
  have z1 : ((is.length : Int) == 0) = false := by rw [beq_eq_false_iff_ne]; omega
  have z1n : (is.length == 0) = false := by rw [beq_eq_false_iff_ne]; omega
  have HL0 := hid hl0
  clear hl0
  go_upto_if 40 with fail
  clear t3 tl
  obtain ⟨x, hx1, hx2, hx3⟩ := urem_range2 (x := wh) (st := (is.length : Int)) (by have := HL0.out; omega) (by have := HL1.out; omega)
  obtain ⟨k, rfl⟩ : ∃ k : Nat, x = (k : Int) := ⟨x.toNat, by omega⟩
  have hkl : k < is.length := by omega
  have z2 : IntKind.u64.wrap (is.length : Int) = (is.length : Int) := by have := HL1.out; simp [IntKind.wrap, IntKind.signed, IntKind.bits]; omega
  have z3 : ¬ (is.length : Int) = 0 := by have := HL0.out; omega
  have z3n : ¬ is.length = 0 := HL0.out
  obtain ⟨W10, hW10⟩ : ∃ W10, W10 = w9.drew := ⟨_, rfl⟩
  have hb10 : Below w9.heap.size w9 W10 := by rw [hW10]; exact ext_drew (ext_refl _)
  have HX10s := hid (HX9s.out.below hb10)
  have HX10c := hid (HX9c.out.below hb10)
  have HUC10 := hid (HUC9.out.below hb10)
  have HB10 := hid (ext_trans HB9.out hb10)
  have HW10 := hid hW10
  obtain ⟨gc, cc', curc, hpc, hgc1, hgc2, hgc3, hgc4, hgc5, hgc6⟩ := owns_at HUC10.out.owns.1 (by omega)
  cases hpc
  obtain ⟨xk, hxk⟩ : ∃ xk, is[k]'hkl = xk := ⟨_, rfl⟩
  have hck2 : (is.map (Value.int .i64))[k]? = some (.int .i64 xk) := by rw [List.getElem?_map, List.getElem?_eq_getElem hkl, hxk]; rfl
  have c5 := hgc3.cell k (hgc6 k _ hck2)
  have c6 := hgc3.free k
  have c3 := HX10c.out.cell 3 (v := .slice (some ⟨gc, 0, none⟩) is.length cc) rfl
  have s3 := HX10s.out.cell 3 (v := .slice pi is.length ci) rfl
  have y1 : (0 : Int) ≤ (k : Int) := by omega
  have y2 : (k : Int) < (is.length : Int) := by omega
  obtain ⟨nx, hnx, hnr, hnn⟩ : ∃ nx, wrap64 (xk + 1) = nx ∧ (-9223372036854775808 ≤ nx ∧ nx ≤ 9223372036854775807) ∧ nx ≠ xk := ⟨_, rfl, by unfold wrap64; omega, by have := HRG.out xk (by rw [← hxk]; exact List.getElem_mem hkl); unfold wrap64; omega⟩
  have hnx2 : IntKind.i64.wrap (xk + 1) = nx := (IntWalk.i64_left _).trans hnx
  have hx12 : IntKind.i64.wrap ((IntKind.u64.wrap wh).tmod (is.length : Int)) = (k : Int) := (IntWalk.i64_left _).trans hx1
  have HNR := hid hnr
  have HNN := hid hnn
  have HXK := hid hxk
  have HGC1 := hid hgc1
  have HGC2 := hid hgc2
  have HKL := hid hkl
  clear hb10 hW10 hnr hnn hxk hgc1 hgc2 hgc3 hgc4 hgc5 hgc6 hck2 hx2 hx3 HX9s HX9c HUC9 HB9
  apply wp_region_then 13 (fun i x _ => x = ([.pointer (some ⟨w4.heap.size, 3, none⟩), .slice (some ⟨gc, 0, none⟩) is.length cc, .int .i64 wh, .int .u64 (IntKind.u64.wrap wh), .pointer (some ⟨w.heap.size, 3, none⟩), .slice pi is.length ci, .int .i64 (is.length : Int), .int .u64 (is.length : Int), .int .u64 ((IntKind.u64.wrap wh).tmod (is.length : Int)), .int .i64 (k : Int), .pointer (some ⟨gc, k, none⟩), .int .i64 xk, .int .i64 nx] : List Value).getD i undef) (fun w' => w' = W10) (fun w1 w2 => w1 = w2)
    (fun i vs w' => match i with
      | 13 => w' = W10 ∧ vs 1 = .slice (some ⟨gc, 0, none⟩) is.length cc ∧ vs 9 = .int .i64 (k : Int) ∧ vs 12 = .int .i64 nx
      | 14 => w' = W10 ∧ vs 12 = .int .i64 nx ∧ vs 13 = .pointer (some ⟨gc, k, none⟩)
      | 15 => w' = W10.setCell ⟨gc, k, none⟩ (.int .i64 nx)
      | _ => False)
  focus (intro vals; simp [putAll, dstOf, Act.put, List.getD]; rfl)
  case hm => kernel_rfl
  case hd => kernel_rfl
  case hb => kernel_rfl
  case hng => kernel_rfl
  case hsz => kernel_rfl
  case hN => rfl
  case htail => kernel_rfl
  case hstab => intro i x w1 w2 h hb; exact h
  case h0 => exact HW10.out.symm
  case hstart => exact fun vs w' hG hV => ⟨hG, hV 1 (by omega), hV 9 (by omega), hV 12 (by omega)⟩
  case hstepA =>
    refine ⟨?_, ?_, ?_, ?_, ?_, ?_, ?_, ?_, ?_, ?_, ?_, ?_, ?_, trivial⟩
    all_goals (
      refine ⟨(fun g b h => by cases h), fun w' hG hg ρ h1 h2 h3 h4 h5 => ?_⟩
      subst hG)
    · have f5 : ρ (.tmp 5) = .pointer (some ⟨w4.heap.size, 0, none⟩) := h5 5 (by kernel_rfl)
      clear h4 h5
      unfold OpY
      go_simp
      exact ⟨rfl, rfl, rfl⟩
    · have f72 : ρ (.tmp 72) = .pointer (some ⟨w4.heap.size, 3, none⟩) := h4 0 72 (by kernel_rfl) (by kernel_rfl)
      clear h4 h5
      unfold OpY
      go_simp
      exact ⟨rfl, rfl, rfl⟩
    · have f1 : ρ (.tmp 1) = .int .i64 wh := h5 1 (by kernel_rfl)
      clear h4 h5
      unfold OpY
      go_simp
      exact ⟨rfl, rfl, rfl⟩
    · have f74 : ρ (.tmp 74) = .int .i64 wh := h4 2 74 (by kernel_rfl) (by kernel_rfl)
      clear h4 h5
      unfold OpY
      go_simp
      exact ⟨rfl, rfl, rfl⟩
    · have f2 : ρ (.tmp 2) = .pointer (some ⟨w.heap.size, 0, none⟩) := h5 2 (by kernel_rfl)
      clear h4 h5
      unfold OpY
      go_simp
      exact ⟨rfl, rfl, rfl⟩
    · have f76 : ρ (.tmp 76) = .pointer (some ⟨w.heap.size, 3, none⟩) := h4 4 76 (by kernel_rfl) (by kernel_rfl)
      clear h4 h5
      unfold OpY
      go_simp
      exact ⟨rfl, rfl, rfl⟩
    · have f77 : ρ (.tmp 77) = .slice pi is.length ci := h4 5 77 (by kernel_rfl) (by kernel_rfl)
      clear h4 h5
      unfold OpY
      go_simp
      exact ⟨rfl, rfl, rfl⟩
    · have f78 : ρ (.tmp 78) = .int .i64 (is.length : Int) := h4 6 78 (by kernel_rfl) (by kernel_rfl)
      clear h4 h5
      unfold OpY
      go_simp
      exact ⟨rfl, rfl, rfl⟩
    · have f75 : ρ (.tmp 75) = .int .u64 (IntKind.u64.wrap wh) := h4 3 75 (by kernel_rfl) (by kernel_rfl)
      have f79 : ρ (.tmp 79) = .int .u64 (is.length : Int) := h4 7 79 (by kernel_rfl) (by kernel_rfl)
      clear h4 h5
      unfold OpY
      go_simp
      first | exact ⟨rfl, rfl, rfl⟩ | (rw [if_neg z3]; exact ⟨rfl, rfl, rfl⟩)
    · have f80 : ρ (.tmp 80) = .int .u64 ((IntKind.u64.wrap wh).tmod (is.length : Int)) := h4 8 80 (by kernel_rfl) (by kernel_rfl)
      clear h4 h5
      unfold OpY
      go_simp
      exact ⟨rfl, rfl, rfl⟩
    · have f73 : ρ (.tmp 73) = .slice (some ⟨gc, 0, none⟩) is.length cc := h4 1 73 (by kernel_rfl) (by kernel_rfl)
      have f81 : ρ (.tmp 81) = .int .i64 (k : Int) := h4 9 81 (by kernel_rfl) (by kernel_rfl)
      clear h4 h5
      unfold OpY
      go_simp
      exact ⟨rfl, rfl, rfl⟩
    · have f82 : ρ (.tmp 82) = .pointer (some ⟨gc, k, none⟩) := h4 10 82 (by kernel_rfl) (by kernel_rfl)
      clear h4 h5
      unfold OpY
      go_simp
      exact ⟨rfl, rfl, rfl⟩
    · have f83 : ρ (.tmp 83) = .int .i64 xk := h4 11 83 (by kernel_rfl) (by kernel_rfl)
      clear h4 h5
      unfold OpY
      go_simp
      exact ⟨rfl, rfl, rfl⟩
  case hstepB =>
    refine ⟨?_, ?_, trivial⟩
    · refine ⟨rfl, fun vs w' hS ρ h1 h2 h3 h4 h5 => ?_⟩
      obtain ⟨rfl, hv1, hv9, hv12⟩ := hS
      have f73 : ρ (.tmp 73) = .slice (some ⟨gc, 0, none⟩) is.length cc := (h4 1 73 (by kernel_rfl) (by kernel_rfl)).trans hv1
      have f81 : ρ (.tmp 81) = .int .i64 (k : Int) := (h4 9 81 (by kernel_rfl) (by kernel_rfl)).trans hv9
      have HV := hid hv12
      clear h4 h5 hv1 hv9 hv12
      unfold OpY
      go_simp
      exact ⟨rfl, by simpa [doneV] using HV.out, by simp [doneV]⟩
    · refine ⟨rfl, fun vs w' hS ρ h1 h2 h3 h4 h5 => ?_⟩
      obtain ⟨rfl, hv12, hv13⟩ := hS
      have f85 : ρ (.tmp 85) = .pointer (some ⟨gc, k, none⟩) := (h4 13 85 (by kernel_rfl) (by kernel_rfl)).trans hv13
      have f84 : ρ (.tmp 84) = .int .i64 nx := (h4 12 84 (by kernel_rfl) (by kernel_rfl)).trans hv12
      clear h4 h5 hv12 hv13
      unfold OpY
      go_simp
      exact rfl
  case hdone =>
    intro vals W11 hW11
    have hW11 : W11 = W10.setCell ⟨gc, k, none⟩ (.int .i64 nx) := hW11
    have hgc1 := HGC1.out
    have hgc2 := HGC2.out
    have hcl := HCLO.out
    have howc := HUC10.out.owns
    have hgcb := howc.2 gc rfl
    have hch := HUC10.out.hi
    have hw43 : w4.heap.size < w6.heap.size := HL6.out.2
    have HB11 : Hid (Below w.heap.size w W11) := hid (by rw [hW11]; exact ext_set HB10.out (by dsimp only; omega) _)
    have hxs : Blk W11 w.heap.size #[.int .i64 st, .int .i64 ck, .int .i64 tr, .slice pi is.length ci, .slice a ths.length cap] 25 := by
      rw [hW11]
      refine HX10s.out.set_other _ _ ?_
      intro he
      obtain ⟨g', c', cur, e1, -, -, e2, -⟩ := owns_at howc.1 (by omega)
      cases e1
      have h1 : W10.heap[w.heap.size]? = _ := HX10s.out
      have h2 : W10.heap[gc]? = _ := e2
      have he' : gc = w.heap.size := by first | exact he | exact he.symm
      rw [he', h1] at h2
      cases h2
    have hxc : Blk W11 w4.heap.size #[.int .i64 st, .int .i64 ck, .int .i64 tr, .slice (some ⟨gc, 0, none⟩) is.length cc, .slice Ac ths.length dc] 25 := by rw [hW11]; exact HX10c.out.set_other _ _ (by dsimp only; omega)
    have hci : RdInts W11 (is.set k nx) (.slice (some ⟨gc, 0, none⟩) is.length cc) := by
      have h1 := owns_set (x := .int .i64 nx) howc.1 HKL.out
      rw [← hW11] at h1
      have h2 : W11.ownsRow w3.heap.size 2 1 (.slice (some ⟨gc, 0, none⟩) is.length cc) (is.set k nx).length ((is.set k nx).map (Value.int .i64)) := by rw [List.length_set, List.map_set]; exact h1
      refine ints_of_own (fun y hy => ?_) h2 (Nat.le_refl _) (Nat.le_refl _) (Agree.refl _ _ _)
      rcases mem_set_of' hy with rfl | hy
      · exact HNR.out
      · exact HRG.out y hy
    have hct : RdThs W11 ths (.slice Ac ths.length dc) := HUC10.out.ths' HLN.out (by rw [hW11]; exact agree_set_out (by unfold OutI; omega))
    have hne : is.set k nx ≠ is := fun he => by
      have h1 : (is.set k nx)[k]? = is[k]? := by rw [he]
      rw [List.getElem?_set_self HKL.out, List.getElem?_eq_getElem HKL.out, HXK.out] at h1
      exact HNN.out (Option.some.inj h1)
    have HSF := hid (susame_any st ck tr st ck tr (is.set k nx) is ths ths (.slice (some ⟨gc, 0, none⟩) is.length cc) _ _ _ W11 hci (HI.out.below HB11.out) hct (HR.out.below HB11.out) false (by simp [hne]))
    have c0 := hxc.cell 0 (v := .int .i64 st) rfl
    have c1 := hxc.cell 1 (v := .int .i64 ck) rfl
    have c2 := hxc.cell 2 (v := .int .i64 tr) rfl
    have c3 := hxc.cell 3 (v := .slice (some ⟨gc, 0, none⟩) is.length cc) rfl
    have c4 := hxc.cell 4 (v := .slice Ac ths.length dc) rfl
    have s0 := hxs.cell 0 (v := .int .i64 st) rfl
    have s1 := hxs.cell 1 (v := .int .i64 ck) rfl
    have s2 := hxs.cell 2 (v := .int .i64 tr) rfl
    have s3 := hxs.cell 3 (v := .slice pi is.length ci) rfl
    have s4 := hxs.cell 4 (v := .slice a ths.length cap) rfl
    have lc := hxc.lt
    have ls := hxs.lt
    clear hW11 hgc1 hgc2 hcl howc hgcb hch hw43 hxs hxc hci hct hne c5 c6
    go_wp2_with fail
    refine HSF.out.mono ?_
    rintro e w12 ⟨rfl, hb12⟩
    have hf := ext_trans HB11.out hb12
    go_wp2_with fail
    go_ret
    exact ⟨rfl, hf⟩
end Go.Proofs.Ytoeegiaajngpeaa
