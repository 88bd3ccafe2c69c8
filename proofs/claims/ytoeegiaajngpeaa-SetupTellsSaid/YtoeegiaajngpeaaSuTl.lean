/-
  The walk of SetupTells (printed by tools/gen_sutl.py).
-/
import Derived.Test.YtoeegiaajngpeaaSuT1
import Derived.Test.YtoeegiaajngpeaaSqC
import Derived.Test.YtoeegiaajngpeaaSqD
import Derived.Test.YtoeegiaajngpeaaSuG3
namespace Go.Proofs.Ytoeegiaajngpeaa
set_option linter.unusedVariables false
set_option linter.unusedSimpArgs false
set_option linter.unusedVariables false
open Go Go.RowKit
set_option maxRecDepth 100000 in
set_option maxHeartbeats 4000000 in
theorem setupTells_walk (st ck tr st' ck' tr' : Int) (is is' : List Int) (ths ths' : List (List (List St))) (vi v vi' v' : Value) (w : World) (hi : RdInts w is vi) (hr : RdThs w ths v) (hi' : RdInts w is' vi') (hr' : RdThs w ths' v') :
    Calls Try.prog 5 #[.agg #[.int .i64 st, .int .i64 ck, .int .i64 tr, vi, v], .agg #[.int .i64 st', .int .i64 ck', .int .i64 tr', vi', v']] w fun e' w' => e' = .returned (.bool true) ∧ Below w.heap.size w w' := by
  obtain ⟨pi, ci, rfl⟩ := ints_slice hi
  obtain ⟨pi', ci', rfl⟩ := ints_slice hi'
  have hni : is.length ≤ 9223372036854775807 := by obtain ⟨-, -, -, h, -⟩ := hi; exact h
  have hni' : is'.length ≤ 9223372036854775807 := by obtain ⟨-, -, -, h, -⟩ := hi'; exact h
  have HR := hid hr
  have HI := hid hi
  have HR' := hid hr'
  have HI' := hid hi'
  obtain ⟨a, cap, rfl, hlen, -⟩ := hr
  obtain ⟨a', cap', rfl, hlen', -⟩ := hr'
  have HRG : Hid (∀ x ∈ is, -9223372036854775808 ≤ x ∧ x ≤ 9223372036854775807) := hid (by obtain ⟨-, -, -, -, h, -⟩ := HI.out; exact h)
  have HLG := hid (fun (W : World) (hb : Below w.heap.size w W) => large_any st ck tr pi is.length ci ths _ W (HR.out.below hb) hni)
  have HLH := hid (fun (W : World) (hb : Below w.heap.size w W) => large_any st' ck' tr' pi' is'.length ci' ths' _ W (HR'.out.below hb) hni')
  have HNI := hid hni
  have HLN := hid hlen
  clear hni hni' hi hi'
  obtain ⟨W1, hW1⟩ : ∃ W1, W1 = (w.alloc (.cells #[.int .i64 st, .int .i64 ck, .int .i64 tr, .slice pi is.length ci, .slice a ths.length cap] 25)).alloc (.cells #[.int .i64 st', .int .i64 ck', .int .i64 tr', .slice pi' is'.length ci', .slice a' ths'.length cap'] 25) := ⟨_, rfl⟩
  have HW1 := hid hW1
  have HB1 : Hid (Below w.heap.size w W1) := hid (by rw [hW1]; exact ext_alloc (ext_alloc (ext_refl _) _) _)
  have HX1 : Hid (Blk W1 w.heap.size #[.int .i64 st, .int .i64 ck, .int .i64 tr, .slice pi is.length ci, .slice a ths.length cap] 25) := hid (by rw [hW1]; exact (Blk.new _ _ _).alloc _)
  have HY1 : Hid (Blk W1 (w.heap.size + 1) #[.int .i64 st', .int .i64 ck', .int .i64 tr', .slice pi' is'.length ci', .slice a' ths'.length cap'] 25) := hid (by rw [hW1]; exact Blk.new' _ _ _ (by simp))
  clear hW1
  go_enter Try.func5, Try.ntmps5
  go_wp2_with fail
  rw [← HW1.out]
  refine (HLG.out W1 HB1.out).mono ?_
  rintro e w2 ⟨q, rfl, hq, hb2⟩
  have HQ := hid hq
  have HX2 := hid (HX1.out.below hb2)
  have HY2 := hid (HY1.out.below hb2)
  have HB2 := hid (ext_trans HB1.out hb2)
  clear hq hb2 HX1 HY1 HB1 HW1 HLG
  cases q with
  | true =>
    have hf := HB2.out
    clear HQ HLH
    go_wp2_with fail
    refine (sawake_any _).mono ?_
    rintro e w3 ⟨rfl, hb3⟩
    have hf := ext_trans hf hb3
    go_wp2_with fail
    go_ret
    exact ⟨rfl, hf⟩
  | false =>
  obtain ⟨l1, l2, hO⟩ := HQ.out rfl
  have HO := hid hO
  have HL1 := hid l1
  have HL2 := hid l2
  clear HQ l1 l2 hO
  have d0 := HY2.out.cell 0 (v := .int .i64 st') rfl
  have d1 := HY2.out.cell 1 (v := .int .i64 ck') rfl
  have d2 := HY2.out.cell 2 (v := .int .i64 tr') rfl
  have d3 := HY2.out.cell 3 (v := .slice pi' is'.length ci') rfl
  have d4 := HY2.out.cell 4 (v := .slice a' ths'.length cap') rfl
  have lY := HY2.out.lt
  go_wp2_with fail
  refine (HLH.out _ HB2.out).mono ?_
  rintro e w3 ⟨q2, rfl, -, hb3⟩
  have HX3 := hid (HX2.out.below hb3)
  have HY3 := hid (HY2.out.below hb3)
  have HB3 := hid (ext_trans HB2.out hb3)
  clear hb3 HX2 HY2 HB2 HLH d0 d1 d2 d3 d4 lY
  cases q2 with
  | true =>
    have hf := HB3.out
    go_wp2_with fail
    refine (sawake_any _).mono ?_
    rintro e w3 ⟨rfl, hb3⟩
    have hf := ext_trans hf hb3
    go_wp2_with fail
    go_ret
    exact ⟨rfl, hf⟩
  | false =>
  have HCPR := hid (fun (W : World) (hb : Below w.heap.size w W) => rscopy_any st ck tr is ths _ _ W (HI.out.below hb) (HR.out.below hb) (by have := HL1.out; omega) HL2.out HO.out)
  have HCP := hid (fun (W : World) (hb : Below w.heap.size w W) => scopy_any st ck tr is ths _ _ W (HI.out.below hb) (HR.out.below hb) (by have := HL1.out; omega) HL2.out HO.out)
  have c0 := HX3.out.cell 0 (v := .int .i64 st) rfl
  have c1 := HX3.out.cell 1 (v := .int .i64 ck) rfl
  have c2 := HX3.out.cell 2 (v := .int .i64 tr) rfl
  have c3 := HX3.out.cell 3 (v := .slice pi is.length ci) rfl
  have c4 := HX3.out.cell 4 (v := .slice a ths.length cap) rfl
  have lX := HX3.out.lt
  go_wp2_with fail
  refine (HCPR.out _ HB3.out).mono ?_
  rintro e w4 ⟨v5, Bk, uk, nk, rfl, hb4, hBk, hrowk, hisk⟩
  obtain ⟨pk, ek, rfl⟩ := ints_slice (hisk w4 (Agree.refl _ _ _))
  obtain ⟨Ak, dk, rfl⟩ := rowG_slice hrowk
  have HKT : Hid (∀ w'', Below w4.heap.size w4 w'' → RdThs w'' ths (.slice Ak ths.length dk)) := hid (fun w'' h => ths_of_G (rowG_end HLN.out hrowk w'' (Agree.of_below h)))
  have HKI : Hid (∀ w'', Below w4.heap.size w4 w'' → RdInts w'' is (.slice pk is.length ek)) := hid (fun w'' h => hisk w'' ((Agree.of_below h).sub (Nat.le_refl _) hrowk.2.1))
  clear c0 c1 c2 c3 c4 lX hBk hrowk hisk HCPR
  obtain ⟨W5, hW5⟩ : ∃ W5, W5 = w4.alloc (.cells #[.int .i64 st, .int .i64 ck, .int .i64 tr, .slice pk is.length ek, .slice Ak ths.length dk] 25) := ⟨_, rfl⟩
  have hb5 : Below w4.heap.size w4 W5 := by rw [hW5]; exact ext_alloc (ext_refl _) _
  have HXK : Hid (Blk W5 w4.heap.size #[.int .i64 st, .int .i64 ck, .int .i64 tr, .slice pk is.length ek, .slice Ak ths.length dk] 25) := hid (by rw [hW5]; exact Blk.new _ _ _)
  have HW5 := hid hW5
  have HX4 := hid (HX3.out.below hb4)
  have HX5 := hid (HX4.out.below hb5)
  have HY5 := hid ((HY3.out.below hb4).below hb5)
  have HB5 := hid (ext_trans (ext_trans HB3.out hb4) hb5)
  have HB45 := hid hb5
  clear hW5 hb4 hb5 HX3 HY3 HB3
  have c0 := HX4.out.cell 0 (v := .int .i64 st) rfl
  have c1 := HX4.out.cell 1 (v := .int .i64 ck) rfl
  have c2 := HX4.out.cell 2 (v := .int .i64 tr) rfl
  have c3 := HX4.out.cell 3 (v := .slice pi is.length ci) rfl
  have c4 := HX4.out.cell 4 (v := .slice a ths.length cap) rfl
  have lX := HX4.out.lt
  go_wp2_with fail
  rw [← HW5.out]
  refine (HCP.out _ HB5.out).mono ?_
  rintro e w6 hcp
  obtain ⟨pc, cc, Ac, dc, Bc, rfl, hb6, hat⟩ := CpAt.of hcp
  clear c0 c1 c2 c3 c4 lX hcp HCP HW5 HX4
  obtain ⟨W7, hW7⟩ : ∃ W7, W7 = w6.alloc (.cells #[.int .i64 st, .int .i64 ck, .int .i64 tr, .slice pc is.length cc, .slice Ac ths.length dc] 25) := ⟨_, rfl⟩
  have hb7 : Below w6.heap.size w6 W7 := by rw [hW7]; exact ext_alloc (ext_refl _) _
  have HXC : Hid (Blk W7 w6.heap.size #[.int .i64 st, .int .i64 ck, .int .i64 tr, .slice pc is.length cc, .slice Ac ths.length dc] 25) := hid (by rw [hW7]; exact Blk.new _ _ _)
  have HW7 := hid hW7
  have HB57 := hid (ext_trans hb6 hb7)
  have HAT := hid (hat.below hb7)
  have HX7 := hid (HX5.out.below HB57.out)
  have HY7 := hid (HY5.out.below HB57.out)
  have HB7 := hid (ext_trans HB5.out HB57.out)
  clear hW7 hb6 hb7 hat HY5
  obtain ⟨ev, hev⟩ : ∃ ev : Int, (∀ (W : World), Below w.heap.size w W → Calls Try.prog 8 #[.agg #[.int .i64 st, .int .i64 ck, .int .i64 tr, .slice pi is.length ci, .slice a ths.length cap]] W fun e' w' => e' = .returned (.int .i64 ev) ∧ Below W.heap.size W w') ∧ (∀ (W : World), Below w.heap.size w W → Calls Try.prog 13 #[.agg #[.int .i64 st, .int .i64 ck, .int .i64 tr, .slice pi is.length ci, .slice a ths.length cap]] W fun e' w' => e' = .returned (.int .i64 ev) ∧ Below W.heap.size W w') := by
    by_cases hg : GoodS st ck tr is.length ths
    · exact ⟨0, fun W h => (check_any st ck tr pi is.length ci ths _ W (HR.out.below h) HO.out HNI.out).mono (fun e' w' h => ⟨h.1.elim (fun y => y.1) (fun y => absurd hg y.2), h.2⟩), fun W h => (rcheck_any st ck tr pi is.length ci ths _ W (HR.out.below h) HO.out).mono (fun e' w' h => ⟨h.1.elim (fun y => y.1) (fun y => absurd hg y.2), h.2⟩)⟩
    · exact ⟨4, fun W h => (check_any st ck tr pi is.length ci ths _ W (HR.out.below h) HO.out HNI.out).mono (fun e' w' h => ⟨h.1.elim (fun y => absurd y.2 hg) (fun y => y.1), h.2⟩), fun W h => (rcheck_any st ck tr pi is.length ci ths _ W (HR.out.below h) HO.out).mono (fun e' w' h => ⟨h.1.elim (fun y => absurd y.2 hg) (fun y => y.1), h.2⟩)⟩
  have HKA := hid (fun (W : World) (hb : Below W7.heap.size W7 W) => hev.1 W (ext_trans HB7.out hb))
  have HKB := hid (fun (W : World) (hb : Below W7.heap.size W7 W) => hev.2 W (ext_trans HB7.out hb))
  clear hev
  obtain ⟨rs, hrs⟩ : ∃ rs : Bool, (st = st' ∧ ck = ck' ∧ tr = tr' ∧ is = is' ∧ ths = ths') ↔ rs = true := by
    by_cases h : st = st' ∧ ck = ck' ∧ tr = tr' ∧ is = is' ∧ ths = ths'
    · exact ⟨true, by simp [h]⟩
    · exact ⟨false, by simp [h]⟩
  have HSA := hid (fun (W : World) (hb : Below W7.heap.size W7 W) => susame_any st ck tr st' ck' tr' is is' ths ths' _ _ _ _ W (HI.out.below (ext_trans HB7.out hb)) (HI'.out.below (ext_trans HB7.out hb)) (HR.out.below (ext_trans HB7.out hb)) (HR'.out.below (ext_trans HB7.out hb)) rs hrs)
  have HSB := hid (fun (W : World) (hb : Below W7.heap.size W7 W) => rususame_any st ck tr st' ck' tr' is is' ths ths' _ _ _ _ W (HI.out.below (ext_trans HB7.out hb)) (HI'.out.below (ext_trans HB7.out hb)) (HR.out.below (ext_trans HB7.out hb)) (HR'.out.below (ext_trans HB7.out hb)) rs hrs)
  have HSC := hid (fun (W : World) (hb : Below W7.heap.size W7 W) => rususame_any st ck tr st ck tr is is ths ths _ _ _ _ W ((HAT.out.below hb).ints' HRG.out (fun _ _ => rfl)) (HI.out.below (ext_trans HB7.out hb)) ((HAT.out.below hb).ths' HLN.out (Agree.refl _ _ _)) (HR.out.below (ext_trans HB7.out hb)) true (by simp))
  have HCA := hid (fun (W : World) (hb : Below W7.heap.size W7 W) => scost_any st ck tr pi is.length ci ths _ W (HR.out.below (ext_trans HB7.out hb)))
  have HCB := hid (fun (W : World) (hb : Below W7.heap.size W7 W) => rscost_any st ck tr pi is.length ci ths _ W (HR.out.below (ext_trans HB7.out hb)))
  generalize costThs ths = cs at *
  clear hrs
  go_upto_if 40 with fail
  rw [← HW7.out]
  apply wp_region_known (fun qq => ([(.agg #[.int .i64 st, .int .i64 ck, .int .i64 tr, .slice pi is.length ci, .slice a ths.length cap]), (.int .i64 ev), (.agg #[.int .i64 st, .int .i64 ck, .int .i64 tr, .slice pi is.length ci, .slice a ths.length cap]), (.int .i64 ev), (.bool false), (.bool false), (WF false (.agg #[.int .i64 st, .int .i64 ck, .int .i64 tr, .slice pi is.length ci, .slice a ths.length cap])), (WF false (.agg #[.int .i64 st', .int .i64 ck', .int .i64 tr', .slice pi' is'.length ci', .slice a' ths'.length cap'])), (WF false (.bool rs)), (WF false (.agg #[.int .i64 st, .int .i64 ck, .int .i64 tr, .slice pi is.length ci, .slice a ths.length cap])), (WF false (.agg #[.int .i64 st', .int .i64 ck', .int .i64 tr', .slice pi' is'.length ci', .slice a' ths'.length cap'])), (WF false (.bool rs)), (WF false (.bool false)), (.bool false), (.bool false), (WF false (.agg #[.int .i64 st, .int .i64 ck, .int .i64 tr, .slice pc is.length cc, .slice Ac ths.length dc])), (WF false (.agg #[.int .i64 st, .int .i64 ck, .int .i64 tr, .slice pi is.length ci, .slice a ths.length cap])), (WF false (.bool true)), (WF false (.bool false)), (.bool false), (.bool false), (WF false (.agg #[.int .i64 st, .int .i64 ck, .int .i64 tr, .slice pi is.length ci, .slice a ths.length cap])), (WF false (.int .i64 (cs : Int))), (WF false (.agg #[.int .i64 st, .int .i64 ck, .int .i64 tr, .slice pi is.length ci, .slice a ths.length cap])), (WF false (.int .i64 (cs : Int))), (WF false (.bool false)), (.bool false)] : List Value).getD qq undef) (fun w' => Below W7.heap.size W7 w')
  focus (simp [putAll, dstOf, Act.put, List.getD]; rfl)
  case hm => kernel_rfl
  case hd => kernel_rfl
  case hb => kernel_rfl
  case hng => kernel_rfl
  case hsz => kernel_rfl
  case h0 => exact ext_drew (ext_refl _)
  case hstep =>
    refine ⟨?_, ?_, ?_, ?_, ?_, ?_, ?_, ?_, ?_, ?_, ?_, ?_, ?_, ?_, ?_, ?_, ?_, ?_, ?_, ?_, ?_, ?_, ?_, ?_, ?_, ?_, ?_, trivial⟩
    · refine ⟨(fun g b h => by cases h), fun w' hG hg ρ h1 h2 h3 h4 h5 => ?_⟩
      have hG := hid hG
      have f2 : ρ (.tmp 2) = .pointer (some ⟨w.heap.size, 0, none⟩) := h5 2 (by kernel_rfl)
      have c0 := later hG.out (HX7.out.cell 0 (v := .int .i64 st) rfl)
      have c1 := later hG.out (HX7.out.cell 1 (v := .int .i64 ck) rfl)
      have c2 := later hG.out (HX7.out.cell 2 (v := .int .i64 tr) rfl)
      have c3 := later hG.out (HX7.out.cell 3 (v := .slice pi is.length ci) rfl)
      have c4 := later hG.out (HX7.out.cell 4 (v := .slice a ths.length cap) rfl)
      all_goals
        try dsimp only [WF, WT] at *
        clear h4 h5 hg
        unfold OpY
        go_simp
        first | exact ⟨rfl, hG.out⟩ | exact ⟨Or.inr rfl, hG.out⟩ | exact ⟨Or.inl rfl, hG.out⟩
    · refine ⟨(fun g b h => by cases h), fun w' hG hg ρ h1 h2 h3 h4 h5 => ?_⟩
      have hG := hid hG
      have f22 : ρ (.tmp 22) = (.agg #[.int .i64 st, .int .i64 ck, .int .i64 tr, .slice pi is.length ci, .slice a ths.length cap]) := h4 0 22 (by kernel_rfl) (by kernel_rfl)
      all_goals
        try dsimp only [WF, WT] at *
        clear h4 h5 hg
        unfold OpY
        go_simp
        unfold OpR
        refine (HKA.out w' hG.out).mono ?_
        rintro e' w2 ⟨rfl, hb2⟩
        exact ⟨_, rfl, (by first | exact rfl | exact Or.inr rfl), ext_trans hG.out hb2⟩
    · refine ⟨(fun g b h => by cases h), fun w' hG hg ρ h1 h2 h3 h4 h5 => ?_⟩
      have hG := hid hG
      have f2 : ρ (.tmp 2) = .pointer (some ⟨w.heap.size, 0, none⟩) := h5 2 (by kernel_rfl)
      have c0 := later hG.out (HX7.out.cell 0 (v := .int .i64 st) rfl)
      have c1 := later hG.out (HX7.out.cell 1 (v := .int .i64 ck) rfl)
      have c2 := later hG.out (HX7.out.cell 2 (v := .int .i64 tr) rfl)
      have c3 := later hG.out (HX7.out.cell 3 (v := .slice pi is.length ci) rfl)
      have c4 := later hG.out (HX7.out.cell 4 (v := .slice a ths.length cap) rfl)
      all_goals
        try dsimp only [WF, WT] at *
        clear h4 h5 hg
        unfold OpY
        go_simp
        first | exact ⟨rfl, hG.out⟩ | exact ⟨Or.inr rfl, hG.out⟩ | exact ⟨Or.inl rfl, hG.out⟩
    · refine ⟨(fun g b h => by cases h), fun w' hG hg ρ h1 h2 h3 h4 h5 => ?_⟩
      have hG := hid hG
      have f24 : ρ (.tmp 24) = (.agg #[.int .i64 st, .int .i64 ck, .int .i64 tr, .slice pi is.length ci, .slice a ths.length cap]) := h4 2 24 (by kernel_rfl) (by kernel_rfl)
      all_goals
        try dsimp only [WF, WT] at *
        clear h4 h5 hg
        unfold OpY
        go_simp
        unfold OpR
        refine (HKB.out w' hG.out).mono ?_
        rintro e' w2 ⟨rfl, hb2⟩
        exact ⟨_, rfl, (by first | exact rfl | exact Or.inr rfl), ext_trans hG.out hb2⟩
    · refine ⟨(fun g b h => by cases h), fun w' hG hg ρ h1 h2 h3 h4 h5 => ?_⟩
      have hG := hid hG
      have f23 : ρ (.tmp 23) = (.int .i64 ev) := h4 1 23 (by kernel_rfl) (by kernel_rfl)
      have f25 : ρ (.tmp 25) = (.int .i64 ev) := h4 3 25 (by kernel_rfl) (by kernel_rfl)
      all_goals
        try dsimp only [WF, WT] at *
        clear h4 h5 hg
        unfold OpY
        go_simp
        first | exact ⟨rfl, hG.out⟩ | exact ⟨Or.inr rfl, hG.out⟩ | exact ⟨Or.inl rfl, hG.out⟩
    · refine ⟨(fun g b h => by cases h), fun w' hG hg ρ h1 h2 h3 h4 h5 => ?_⟩
      have hG := hid hG
      have f26 : ρ (.tmp 26) = (.bool false) := h4 4 26 (by kernel_rfl) (by kernel_rfl)
      all_goals
        try dsimp only [WF, WT] at *
        clear h4 h5 hg
        unfold OpY
        go_simp
        first | exact ⟨rfl, hG.out⟩ | exact ⟨Or.inr rfl, hG.out⟩ | exact ⟨Or.inl rfl, hG.out⟩
    · refine ⟨(fun g b h => by
          obtain ⟨rfl, rfl⟩ := Prod.mk.inj (Option.some.inj h)
          exact ⟨false, rfl, fun h => by first | rfl | exact absurd rfl h⟩), fun w' hG hg ρ h1 h2 h3 h4 h5 => ?_⟩
      have hG := hid hG
      have f2 : ρ (.tmp 2) = .pointer (some ⟨w.heap.size, 0, none⟩) := h5 2 (by kernel_rfl)
      have c0 := later hG.out (HX7.out.cell 0 (v := .int .i64 st) rfl)
      have c1 := later hG.out (HX7.out.cell 1 (v := .int .i64 ck) rfl)
      have c2 := later hG.out (HX7.out.cell 2 (v := .int .i64 tr) rfl)
      have c3 := later hG.out (HX7.out.cell 3 (v := .slice pi is.length ci) rfl)
      have c4 := later hG.out (HX7.out.cell 4 (v := .slice a ths.length cap) rfl)
      all_goals
        try dsimp only [WF, WT] at *
        clear h4 h5 hg
        unfold OpY
        go_simp
        first | exact ⟨rfl, hG.out⟩ | exact ⟨Or.inr rfl, hG.out⟩ | exact ⟨Or.inl rfl, hG.out⟩
    · refine ⟨(fun g b h => by
          obtain ⟨rfl, rfl⟩ := Prod.mk.inj (Option.some.inj h)
          exact ⟨false, rfl, fun h => by first | rfl | exact absurd rfl h⟩), fun w' hG hg ρ h1 h2 h3 h4 h5 => ?_⟩
      have hG := hid hG
      have f3 : ρ (.tmp 3) = .pointer (some ⟨w.heap.size + 1, 0, none⟩) := h5 3 (by kernel_rfl)
      have c0 := later hG.out (HY7.out.cell 0 (v := .int .i64 st') rfl)
      have c1 := later hG.out (HY7.out.cell 1 (v := .int .i64 ck') rfl)
      have c2 := later hG.out (HY7.out.cell 2 (v := .int .i64 tr') rfl)
      have c3 := later hG.out (HY7.out.cell 3 (v := .slice pi' is'.length ci') rfl)
      have c4 := later hG.out (HY7.out.cell 4 (v := .slice a' ths'.length cap') rfl)
      all_goals
        try dsimp only [WF, WT] at *
        clear h4 h5 hg
        unfold OpY
        go_simp
        first | exact ⟨rfl, hG.out⟩ | exact ⟨Or.inr rfl, hG.out⟩ | exact ⟨Or.inl rfl, hG.out⟩
    · refine ⟨(fun g b h => by
          obtain ⟨rfl, rfl⟩ := Prod.mk.inj (Option.some.inj h)
          exact ⟨false, rfl, fun h => by first | rfl | exact absurd rfl h⟩), fun w' hG hg ρ h1 h2 h3 h4 h5 => ?_⟩
      have hG := hid hG
      have f28 : ρ (.tmp 28) = (WF false (.agg #[.int .i64 st, .int .i64 ck, .int .i64 tr, .slice pi is.length ci, .slice a ths.length cap])) := h4 6 28 (by kernel_rfl) (by kernel_rfl)
      have f29 : ρ (.tmp 29) = (WF false (.agg #[.int .i64 st', .int .i64 ck', .int .i64 tr', .slice pi' is'.length ci', .slice a' ths'.length cap'])) := h4 7 29 (by kernel_rfl) (by kernel_rfl)
      all_goals
        try dsimp only [WF, WT] at *
        clear h4 h5 hg
        unfold OpY
        go_simp
        unfold OpR
        refine (HSA.out w' hG.out).mono ?_
        rintro e' w2 ⟨rfl, hb2⟩
        exact ⟨_, rfl, (by first | exact rfl | exact Or.inr rfl), ext_trans hG.out hb2⟩
    · refine ⟨(fun g b h => by
          obtain ⟨rfl, rfl⟩ := Prod.mk.inj (Option.some.inj h)
          exact ⟨false, rfl, fun h => by first | rfl | exact absurd rfl h⟩), fun w' hG hg ρ h1 h2 h3 h4 h5 => ?_⟩
      have hG := hid hG
      have f2 : ρ (.tmp 2) = .pointer (some ⟨w.heap.size, 0, none⟩) := h5 2 (by kernel_rfl)
      have c0 := later hG.out (HX7.out.cell 0 (v := .int .i64 st) rfl)
      have c1 := later hG.out (HX7.out.cell 1 (v := .int .i64 ck) rfl)
      have c2 := later hG.out (HX7.out.cell 2 (v := .int .i64 tr) rfl)
      have c3 := later hG.out (HX7.out.cell 3 (v := .slice pi is.length ci) rfl)
      have c4 := later hG.out (HX7.out.cell 4 (v := .slice a ths.length cap) rfl)
      all_goals
        try dsimp only [WF, WT] at *
        clear h4 h5 hg
        unfold OpY
        go_simp
        first | exact ⟨rfl, hG.out⟩ | exact ⟨Or.inr rfl, hG.out⟩ | exact ⟨Or.inl rfl, hG.out⟩
    · refine ⟨(fun g b h => by
          obtain ⟨rfl, rfl⟩ := Prod.mk.inj (Option.some.inj h)
          exact ⟨false, rfl, fun h => by first | rfl | exact absurd rfl h⟩), fun w' hG hg ρ h1 h2 h3 h4 h5 => ?_⟩
      have hG := hid hG
      have f3 : ρ (.tmp 3) = .pointer (some ⟨w.heap.size + 1, 0, none⟩) := h5 3 (by kernel_rfl)
      have c0 := later hG.out (HY7.out.cell 0 (v := .int .i64 st') rfl)
      have c1 := later hG.out (HY7.out.cell 1 (v := .int .i64 ck') rfl)
      have c2 := later hG.out (HY7.out.cell 2 (v := .int .i64 tr') rfl)
      have c3 := later hG.out (HY7.out.cell 3 (v := .slice pi' is'.length ci') rfl)
      have c4 := later hG.out (HY7.out.cell 4 (v := .slice a' ths'.length cap') rfl)
      all_goals
        try dsimp only [WF, WT] at *
        clear h4 h5 hg
        unfold OpY
        go_simp
        first | exact ⟨rfl, hG.out⟩ | exact ⟨Or.inr rfl, hG.out⟩ | exact ⟨Or.inl rfl, hG.out⟩
    · refine ⟨(fun g b h => by
          obtain ⟨rfl, rfl⟩ := Prod.mk.inj (Option.some.inj h)
          exact ⟨false, rfl, fun h => by first | rfl | exact absurd rfl h⟩), fun w' hG hg ρ h1 h2 h3 h4 h5 => ?_⟩
      have hG := hid hG
      have f31 : ρ (.tmp 31) = (WF false (.agg #[.int .i64 st, .int .i64 ck, .int .i64 tr, .slice pi is.length ci, .slice a ths.length cap])) := h4 9 31 (by kernel_rfl) (by kernel_rfl)
      have f32 : ρ (.tmp 32) = (WF false (.agg #[.int .i64 st', .int .i64 ck', .int .i64 tr', .slice pi' is'.length ci', .slice a' ths'.length cap'])) := h4 10 32 (by kernel_rfl) (by kernel_rfl)
      all_goals
        try dsimp only [WF, WT] at *
        clear h4 h5 hg
        unfold OpY
        go_simp
        unfold OpR
        refine (HSB.out w' hG.out).mono ?_
        rintro e' w2 ⟨rfl, hb2⟩
        exact ⟨_, rfl, (by first | exact rfl | exact Or.inr rfl), ext_trans hG.out hb2⟩
    · refine ⟨(fun g b h => by
          obtain ⟨rfl, rfl⟩ := Prod.mk.inj (Option.some.inj h)
          exact ⟨false, rfl, fun h => by first | rfl | exact absurd rfl h⟩), fun w' hG hg ρ h1 h2 h3 h4 h5 => ?_⟩
      have hG := hid hG
      have f30 : ρ (.tmp 30) = (WF false (.bool rs)) := h4 8 30 (by kernel_rfl) (by kernel_rfl)
      have f33 : ρ (.tmp 33) = (WF false (.bool rs)) := h4 11 33 (by kernel_rfl) (by kernel_rfl)
      all_goals
        try dsimp only [WF, WT] at *
        clear h4 h5 hg
        unfold OpY
        go_simp
        first | exact ⟨rfl, hG.out⟩ | exact ⟨Or.inr rfl, hG.out⟩ | exact ⟨Or.inl rfl, hG.out⟩
    · refine ⟨(fun g b h => by cases h), fun w' hG hg ρ h1 h2 h3 h4 h5 => ?_⟩
      have hG := hid hG
      have f27 : ρ (.tmp 27) = (.bool false) := h4 5 27 (by kernel_rfl) (by kernel_rfl)
      have f34 : ρ (.tmp 34) = (WF false (.bool false)) := h4 12 34 (by kernel_rfl) (by kernel_rfl)
      all_goals
        try dsimp only [WF, WT] at *
        clear h4 h5 hg
        unfold OpY
        go_simp
        first | exact ⟨rfl, hG.out⟩ | exact ⟨Or.inr rfl, hG.out⟩ | exact ⟨Or.inl rfl, hG.out⟩
    · refine ⟨(fun g b h => by cases h), fun w' hG hg ρ h1 h2 h3 h4 h5 => ?_⟩
      have hG := hid hG
      have f35 : ρ (.tmp 35) = (.bool false) := h4 13 35 (by kernel_rfl) (by kernel_rfl)
      all_goals
        try dsimp only [WF, WT] at *
        clear h4 h5 hg
        unfold OpY
        go_simp
        first | exact ⟨rfl, hG.out⟩ | exact ⟨Or.inr rfl, hG.out⟩ | exact ⟨Or.inl rfl, hG.out⟩
    · refine ⟨(fun g b h => by
          obtain ⟨rfl, rfl⟩ := Prod.mk.inj (Option.some.inj h)
          exact ⟨false, rfl, fun h => by first | rfl | exact absurd rfl h⟩), fun w' hG hg ρ h1 h2 h3 h4 h5 => ?_⟩
      have hG := hid hG
      have f6 : ρ (.tmp 6) = .pointer (some ⟨w6.heap.size, 0, none⟩) := h5 6 (by kernel_rfl)
      have c0 := later hG.out (HXC.out.cell 0 (v := .int .i64 st) rfl)
      have c1 := later hG.out (HXC.out.cell 1 (v := .int .i64 ck) rfl)
      have c2 := later hG.out (HXC.out.cell 2 (v := .int .i64 tr) rfl)
      have c3 := later hG.out (HXC.out.cell 3 (v := .slice pc is.length cc) rfl)
      have c4 := later hG.out (HXC.out.cell 4 (v := .slice Ac ths.length dc) rfl)
      all_goals
        try dsimp only [WF, WT] at *
        clear h4 h5 hg
        unfold OpY
        go_simp
        first | exact ⟨rfl, hG.out⟩ | exact ⟨Or.inr rfl, hG.out⟩ | exact ⟨Or.inl rfl, hG.out⟩
    · refine ⟨(fun g b h => by
          obtain ⟨rfl, rfl⟩ := Prod.mk.inj (Option.some.inj h)
          exact ⟨false, rfl, fun h => by first | rfl | exact absurd rfl h⟩), fun w' hG hg ρ h1 h2 h3 h4 h5 => ?_⟩
      have hG := hid hG
      have f2 : ρ (.tmp 2) = .pointer (some ⟨w.heap.size, 0, none⟩) := h5 2 (by kernel_rfl)
      have c0 := later hG.out (HX7.out.cell 0 (v := .int .i64 st) rfl)
      have c1 := later hG.out (HX7.out.cell 1 (v := .int .i64 ck) rfl)
      have c2 := later hG.out (HX7.out.cell 2 (v := .int .i64 tr) rfl)
      have c3 := later hG.out (HX7.out.cell 3 (v := .slice pi is.length ci) rfl)
      have c4 := later hG.out (HX7.out.cell 4 (v := .slice a ths.length cap) rfl)
      all_goals
        try dsimp only [WF, WT] at *
        clear h4 h5 hg
        unfold OpY
        go_simp
        first | exact ⟨rfl, hG.out⟩ | exact ⟨Or.inr rfl, hG.out⟩ | exact ⟨Or.inl rfl, hG.out⟩
    · refine ⟨(fun g b h => by
          obtain ⟨rfl, rfl⟩ := Prod.mk.inj (Option.some.inj h)
          exact ⟨false, rfl, fun h => by first | rfl | exact absurd rfl h⟩), fun w' hG hg ρ h1 h2 h3 h4 h5 => ?_⟩
      have hG := hid hG
      have f37 : ρ (.tmp 37) = (WF false (.agg #[.int .i64 st, .int .i64 ck, .int .i64 tr, .slice pc is.length cc, .slice Ac ths.length dc])) := h4 15 37 (by kernel_rfl) (by kernel_rfl)
      have f38 : ρ (.tmp 38) = (WF false (.agg #[.int .i64 st, .int .i64 ck, .int .i64 tr, .slice pi is.length ci, .slice a ths.length cap])) := h4 16 38 (by kernel_rfl) (by kernel_rfl)
      all_goals
        try dsimp only [WF, WT] at *
        clear h4 h5 hg
        unfold OpY
        go_simp
        unfold OpR
        refine (HSC.out w' hG.out).mono ?_
        rintro e' w2 ⟨rfl, hb2⟩
        exact ⟨_, rfl, (by first | exact rfl | exact Or.inr rfl), ext_trans hG.out hb2⟩
    · refine ⟨(fun g b h => by
          obtain ⟨rfl, rfl⟩ := Prod.mk.inj (Option.some.inj h)
          exact ⟨false, rfl, fun h => by first | rfl | exact absurd rfl h⟩), fun w' hG hg ρ h1 h2 h3 h4 h5 => ?_⟩
      have hG := hid hG
      have f39 : ρ (.tmp 39) = (WF false (.bool true)) := h4 17 39 (by kernel_rfl) (by kernel_rfl)
      all_goals
        try dsimp only [WF, WT] at *
        clear h4 h5 hg
        unfold OpY
        go_simp
        first | exact ⟨rfl, hG.out⟩ | exact ⟨Or.inr rfl, hG.out⟩ | exact ⟨Or.inl rfl, hG.out⟩
    · refine ⟨(fun g b h => by cases h), fun w' hG hg ρ h1 h2 h3 h4 h5 => ?_⟩
      have hG := hid hG
      have f36 : ρ (.tmp 36) = (.bool false) := h4 14 36 (by kernel_rfl) (by kernel_rfl)
      have f40 : ρ (.tmp 40) = (WF false (.bool false)) := h4 18 40 (by kernel_rfl) (by kernel_rfl)
      all_goals
        try dsimp only [WF, WT] at *
        clear h4 h5 hg
        unfold OpY
        go_simp
        first | exact ⟨rfl, hG.out⟩ | exact ⟨Or.inr rfl, hG.out⟩ | exact ⟨Or.inl rfl, hG.out⟩
    · refine ⟨(fun g b h => by cases h), fun w' hG hg ρ h1 h2 h3 h4 h5 => ?_⟩
      have hG := hid hG
      have f41 : ρ (.tmp 41) = (.bool false) := h4 19 41 (by kernel_rfl) (by kernel_rfl)
      all_goals
        try dsimp only [WF, WT] at *
        clear h4 h5 hg
        unfold OpY
        go_simp
        first | exact ⟨rfl, hG.out⟩ | exact ⟨Or.inr rfl, hG.out⟩ | exact ⟨Or.inl rfl, hG.out⟩
    · refine ⟨(fun g b h => by
          obtain ⟨rfl, rfl⟩ := Prod.mk.inj (Option.some.inj h)
          exact ⟨false, rfl, fun h => by first | rfl | exact absurd rfl h⟩), fun w' hG hg ρ h1 h2 h3 h4 h5 => ?_⟩
      have hG := hid hG
      have f2 : ρ (.tmp 2) = .pointer (some ⟨w.heap.size, 0, none⟩) := h5 2 (by kernel_rfl)
      have c0 := later hG.out (HX7.out.cell 0 (v := .int .i64 st) rfl)
      have c1 := later hG.out (HX7.out.cell 1 (v := .int .i64 ck) rfl)
      have c2 := later hG.out (HX7.out.cell 2 (v := .int .i64 tr) rfl)
      have c3 := later hG.out (HX7.out.cell 3 (v := .slice pi is.length ci) rfl)
      have c4 := later hG.out (HX7.out.cell 4 (v := .slice a ths.length cap) rfl)
      all_goals
        try dsimp only [WF, WT] at *
        clear h4 h5 hg
        unfold OpY
        go_simp
        first | exact ⟨rfl, hG.out⟩ | exact ⟨Or.inr rfl, hG.out⟩ | exact ⟨Or.inl rfl, hG.out⟩
    · refine ⟨(fun g b h => by
          obtain ⟨rfl, rfl⟩ := Prod.mk.inj (Option.some.inj h)
          exact ⟨false, rfl, fun h => by first | rfl | exact absurd rfl h⟩), fun w' hG hg ρ h1 h2 h3 h4 h5 => ?_⟩
      have hG := hid hG
      have f43 : ρ (.tmp 43) = (WF false (.agg #[.int .i64 st, .int .i64 ck, .int .i64 tr, .slice pi is.length ci, .slice a ths.length cap])) := h4 21 43 (by kernel_rfl) (by kernel_rfl)
      all_goals
        try dsimp only [WF, WT] at *
        clear h4 h5 hg
        unfold OpY
        go_simp
        unfold OpR
        refine (HCA.out w' hG.out).mono ?_
        rintro e' w2 ⟨rfl, hb2⟩
        exact ⟨_, rfl, (by first | exact rfl | exact Or.inr rfl), ext_trans hG.out hb2⟩
    · refine ⟨(fun g b h => by
          obtain ⟨rfl, rfl⟩ := Prod.mk.inj (Option.some.inj h)
          exact ⟨false, rfl, fun h => by first | rfl | exact absurd rfl h⟩), fun w' hG hg ρ h1 h2 h3 h4 h5 => ?_⟩
      have hG := hid hG
      have f2 : ρ (.tmp 2) = .pointer (some ⟨w.heap.size, 0, none⟩) := h5 2 (by kernel_rfl)
      have c0 := later hG.out (HX7.out.cell 0 (v := .int .i64 st) rfl)
      have c1 := later hG.out (HX7.out.cell 1 (v := .int .i64 ck) rfl)
      have c2 := later hG.out (HX7.out.cell 2 (v := .int .i64 tr) rfl)
      have c3 := later hG.out (HX7.out.cell 3 (v := .slice pi is.length ci) rfl)
      have c4 := later hG.out (HX7.out.cell 4 (v := .slice a ths.length cap) rfl)
      all_goals
        try dsimp only [WF, WT] at *
        clear h4 h5 hg
        unfold OpY
        go_simp
        first | exact ⟨rfl, hG.out⟩ | exact ⟨Or.inr rfl, hG.out⟩ | exact ⟨Or.inl rfl, hG.out⟩
    · refine ⟨(fun g b h => by
          obtain ⟨rfl, rfl⟩ := Prod.mk.inj (Option.some.inj h)
          exact ⟨false, rfl, fun h => by first | rfl | exact absurd rfl h⟩), fun w' hG hg ρ h1 h2 h3 h4 h5 => ?_⟩
      have hG := hid hG
      have f45 : ρ (.tmp 45) = (WF false (.agg #[.int .i64 st, .int .i64 ck, .int .i64 tr, .slice pi is.length ci, .slice a ths.length cap])) := h4 23 45 (by kernel_rfl) (by kernel_rfl)
      all_goals
        try dsimp only [WF, WT] at *
        clear h4 h5 hg
        unfold OpY
        go_simp
        unfold OpR
        refine (HCB.out w' hG.out).mono ?_
        rintro e' w2 ⟨rfl, hb2⟩
        exact ⟨_, rfl, (by first | exact rfl | exact Or.inr rfl), ext_trans hG.out hb2⟩
    · refine ⟨(fun g b h => by
          obtain ⟨rfl, rfl⟩ := Prod.mk.inj (Option.some.inj h)
          exact ⟨false, rfl, fun h => by first | rfl | exact absurd rfl h⟩), fun w' hG hg ρ h1 h2 h3 h4 h5 => ?_⟩
      have hG := hid hG
      have f44 : ρ (.tmp 44) = (WF false (.int .i64 (cs : Int))) := h4 22 44 (by kernel_rfl) (by kernel_rfl)
      have f46 : ρ (.tmp 46) = (WF false (.int .i64 (cs : Int))) := h4 24 46 (by kernel_rfl) (by kernel_rfl)
      all_goals
        try dsimp only [WF, WT] at *
        clear h4 h5 hg
        unfold OpY
        go_simp
        first | exact ⟨rfl, hG.out⟩ | exact ⟨Or.inr rfl, hG.out⟩ | exact ⟨Or.inl rfl, hG.out⟩
    · refine ⟨(fun g b h => by cases h), fun w' hG hg ρ h1 h2 h3 h4 h5 => ?_⟩
      have hG := hid hG
      have f42 : ρ (.tmp 42) = (.bool false) := h4 20 42 (by kernel_rfl) (by kernel_rfl)
      have f47 : ρ (.tmp 47) = (WF false (.bool false)) := h4 25 47 (by kernel_rfl) (by kernel_rfl)
      all_goals
        try dsimp only [WF, WT] at *
        clear h4 h5 hg
        unfold OpY
        go_simp
        first | exact ⟨rfl, hG.out⟩ | exact ⟨Or.inr rfl, hG.out⟩ | exact ⟨Or.inl rfl, hG.out⟩
  case hdone =>
  intro w8 hG8
  have HAT8 := HAT.out.below hG8
  obtain ⟨g0, cells0, hc0, hce⟩ := ths_cells HAT8 HO.out
  have hgi : 0 < is.length → ∃ gi cur, pc = some ⟨gi, 0, none⟩ ∧ W5.heap.size ≤ gi ∧ Blk w8 gi cur 2 ∧ is.length ≤ cur.size := fun hn => by
    obtain ⟨g, c, cur, e1, h1, h2, h3, h4, h5, h6⟩ := owns_at HAT8.owns.1 hn
    cases e1
    exact ⟨g, cur, rfl, h1, h3, by omega⟩
  have HOK8 : Hid (ThsOk W5.heap.size w8 w6.heap.size #[.int .i64 st, .int .i64 ck, .int .i64 tr, .slice pc is.length cc, .slice Ac ths.length dc] ths.length g0 cells0) := hid ⟨HXC.out.below hG8, fun hn => (hc0 hn).2.2.2, hce⟩
  have HC0 : Hid (0 < ths.length → ∃ c, Value.slice Ac ths.length dc = .slice (some ⟨g0, 0, none⟩) ths.length c) := hid (fun hn => (hc0 hn).1)
  obtain ⟨gi, hgi'⟩ : ∃ gi, 0 < is.length → pc = some ⟨gi, 0, none⟩ ∧ W5.heap.size ≤ gi ∧ ∃ cur, Blk w8 gi cur 2 ∧ is.length ≤ cur.size := by
    by_cases hn : 0 < is.length
    · obtain ⟨gi, cur, h1, h2, h3, h4⟩ := hgi hn
      exact ⟨gi, fun _ => ⟨h1, h2, cur, h3, h4⟩⟩
    · exact ⟨0, fun h => absurd h hn⟩
  have HGI : Hid (0 < is.length → pc = some ⟨gi, 0, none⟩ ∧ W5.heap.size ≤ gi) := hid (fun hn => ⟨(hgi' hn).1, (hgi' hn).2.1⟩)
  have HGB : Hid (0 < is.length → ∃ cur, Blk w8 gi cur 2 ∧ is.length ≤ cur.size) := hid (fun hn => (hgi' hn).2.2)
  have HB8 := hid (ext_trans HB57.out hG8)
  have HLO : Hid (W5.heap.size ≤ w6.heap.size) := hid (by have := HAT8.hi; omega)
  clear hG8 HAT8 hc0 hce hgi hgi' HKA HKB HSA HSB HSC HCA HCB HXC HX7 HY7 HB7 HB57 HW7
  have b3 := HOK8.out.box.cell 3 (v := .slice pc is.length cc) rfl
  have bl := HOK8.out.box.lt
  go_wp2_with fail
  go_loopw [7] (fun i wr => ∃ (k : Nat), k ≤ is.length ∧ i = .int .i64 k ∧ Hid (ThsOk W5.heap.size wr w6.heap.size #[.int .i64 st, .int .i64 ck, .int .i64 tr, .slice pc is.length cc, .slice Ac ths.length dc] ths.length g0 cells0) ∧ Hid (0 < is.length → ∃ cur, Blk wr gi cur 2 ∧ is.length ≤ cur.size) ∧ Hid (Below W5.heap.size W5 wr)) (fun i _ => is.length - (intOf i).toNat)
  case atStart => exact ⟨0, Nat.zero_le _, rfl, HOK8, HGB, HB8⟩
  case round =>
    clear b3 bl HOK8 HGB HB8
    obtain ⟨wo, rfl⟩ : ∃ wo, wo = wr := ⟨_, rfl⟩
    obtain ⟨k, hk, rfl, HOK, HG, HB⟩ := hrel
    have b3 := HOK.out.box.cell 3 (v := .slice pc is.length cc) rfl
    have bl := HOK.out.box.lt
    by_cases hlt : k < is.length
    · obtain ⟨hpc, hglo⟩ := HGI.out (by omega)
      subst hpc
      obtain ⟨cur, hcur, hcs⟩ := HG.out (by omega)
      obtain ⟨y1, c1⟩ := hcur.some k (by omega)
      have cf := hcur.free k
      have HCU := hid hcur
      have HCS := hid hcs
      have HGL := hid hglo
      have HLT := hid hlt
      have j1 : decide ((k : Int) < (is.length : Int)) = true := by rw [decide_eq_true_iff]; omega
      have j1n : decide (k < is.length) = true := decide_eq_true hlt
      have j2 : (0 : Int) ≤ (k : Int) := by omega
      have j2n : (k : Int) < (is.length : Int) := by omega
      have j3 : IntKind.i64.wrap ((k : Int) + 1) = (k : Int) + 1 := IntWalk.i64_in _ (by have := HNI.out; omega)
      clear hcur hcs hglo hlt
      go_wp2_with fail
      go_roundw
      case rel => exact ⟨k + 1, HLT.out, by go_num, hid (HOK.out.set HCU.out (by decide) (by decide) (.inl (by decide))), hid (fun _ => ⟨_, HCU.out.set k _, by have := HCS.out; simpa using this⟩), hid (ext_set HB.out (by have := HGL.out; dsimp only; omega) _)⟩
      case measure => have := HLT.out; simp [intOf]; omega
    obtain rfl : k = is.length := by omega
    have j1 : decide ((is.length : Int) < (is.length : Int)) = false := by rw [decide_eq_false_iff_not]; omega
    have j1n : decide (is.length < is.length) = false := by simp
    clear HG
    have b4 := HOK.out.box.cell 4 (v := .slice Ac ths.length dc) rfl
    go_wp2_with fail
    go_loopw [8] (fun i wr => ∃ (k : Nat), k ≤ ths.length ∧ i = .int .i64 k ∧ Hid (ThsOk W5.heap.size wr w6.heap.size #[.int .i64 st, .int .i64 ck, .int .i64 tr, .slice pc is.length cc, .slice Ac ths.length dc] ths.length g0 cells0) ∧ Hid (Below W5.heap.size W5 wr)) (fun i _ => ths.length - (intOf i).toNat)
    case atStart => exact ⟨0, Nat.zero_le _, rfl, HOK, HB⟩
    case round =>
      clear b3 bl b4 HOK HB j1 j1n
      obtain ⟨wa, rfl⟩ : ∃ wa, wa = wr := ⟨_, rfl⟩
      obtain ⟨i, hi, rfl, HOK, HB⟩ := hrel
      have b4 := HOK.out.box.cell 4 (v := .slice Ac ths.length dc) rfl
      have bl := HOK.out.box.lt
      by_cases hit : i < ths.length
      · obtain ⟨c', hac⟩ := HC0.out (by omega)
        cases hac
        obtain ⟨x, hxi, hxo⟩ := HOK.out.each i hit
        obtain ⟨p, m, c, rfl, hm, -⟩ := hxo
        have HXI := hid hxi
        have HM := hid hm
        have r0 := (HOK.out.row (by omega)).cell i hxi
        have lr := lt_of_cell r0
        have HIT := hid hit
        have i1 : decide ((i : Int) < (ths.length : Int)) = true := by rw [decide_eq_true_iff]; omega
        have i1n : decide (i < ths.length) = true := decide_eq_true hit
        have i2 : (0 : Int) ≤ (i : Int) := by omega
        have i2n : (i : Int) < (ths.length : Int) := by omega
        have i3 : IntKind.i64.wrap ((i : Int) + 1) = (i : Int) + 1 := IntWalk.i64_in _ (by have := HL2.out; omega)
        clear hit hxi hm
        go_wp2_with fail
        go_loopw [9] (fun k wr => ∃ (n : Nat), n ≤ m ∧ k = .int .i64 n ∧ Hid (ThsOk W5.heap.size wr w6.heap.size #[.int .i64 st, .int .i64 ck, .int .i64 tr, .slice pc is.length cc, .slice (some ⟨g0, 0, none⟩) ths.length dc] ths.length g0 cells0) ∧ Hid (Below W5.heap.size W5 wr)) (fun k _ => m - (intOf k).toNat)
        case atStart => exact ⟨0, Nat.zero_le _, rfl, HOK, HB⟩
        case round =>
          clear b4 bl r0 lr HOK HB
          obtain ⟨wb, rfl⟩ : ∃ wb, wb = wr := ⟨_, rfl⟩
          obtain ⟨k, hk, rfl, HOK, HB⟩ := hrel
          have b4 := HOK.out.box.cell 4 (v := .slice (some ⟨g0, 0, none⟩) ths.length dc) rfl
          have bl := HOK.out.box.lt
          have r0 := (HOK.out.row (by have := HIT.out; omega)).cell i HXI.out
          have lr := lt_of_cell r0
          by_cases hkm : k < m
          · obtain ⟨x', hx1, hx2⟩ := HOK.out.each i HIT.out
            rw [HXI.out] at hx1
            cases hx1
            obtain ⟨p', m', c', hxe, -, hrow⟩ := hx2
            cases hxe
            obtain ⟨g1, cells1, rfl, hg1, hb1, hc1⟩ := hrow (by omega)
            obtain ⟨y, hyk, hyo⟩ := hc1 k hkm
            obtain ⟨p2, m2, c2, rfl, hm2, hrow2⟩ := hyo
            have HYK := hid hyk
            have HM2 := hid hm2
            have HG1 := hid hg1
            have HBL1 := hid hb1
            have s0 := hb1.cell k hyk
            have ls := lt_of_cell s0
            have HROW2 : Hid (0 < m2 → ∃ g2, p2 = some ⟨g2, 0, none⟩ ∧ W5.heap.size ≤ g2 ∧ ∃ cells2, Blk wb g2 cells2 42 ∧ m2 * 10 ≤ cells2.size) := hid (fun h => by obtain ⟨g2, cells2, e1, e2, e3, e4⟩ := hrow2 h; exact ⟨g2, e1, e2, cells2, e3, e4⟩)
            obtain ⟨g2, hg2⟩ : ∃ g2, 0 < m2 → p2 = some ⟨g2, 0, none⟩ ∧ W5.heap.size ≤ g2 ∧ ∃ cells2, Blk wb g2 cells2 42 ∧ m2 * 10 ≤ cells2.size := by
              by_cases h : 0 < m2
              · obtain ⟨g2, e⟩ := HROW2.out h
                exact ⟨g2, fun _ => e⟩
              · exact ⟨0, fun h' => absurd h' h⟩
            have HP2 : Hid (0 < m2 → p2 = some ⟨g2, 0, none⟩ ∧ W5.heap.size ≤ g2) := hid (fun h => ⟨(hg2 h).1, (hg2 h).2.1⟩)
            have HCL2 : Hid (0 < m2 → ∃ cells2, Blk wb g2 cells2 42 ∧ m2 * 10 ≤ cells2.size) := hid (fun h => (hg2 h).2.2)
            have HKM := hid hkm
            have j1 : decide ((k : Int) < (m : Int)) = true := by rw [decide_eq_true_iff]; omega
            have j1n : decide (k < m) = true := decide_eq_true hkm
            have j2 : (0 : Int) ≤ (k : Int) := by omega
            have j2n : (k : Int) < (m : Int) := by omega
            have j3 : IntKind.i64.wrap ((k : Int) + 1) = (k : Int) + 1 := IntWalk.i64_in _ (by have := HM.out; omega)
            clear hrow hg1 hb1 hc1 hyk hm2 hrow2 hg2 hkm HROW2
            go_wp2_with fail
            go_loopw [10] (fun j wr => ∃ (n : Nat), n ≤ m2 ∧ j = .int .i64 n ∧ Hid (ThsOk W5.heap.size wr w6.heap.size #[.int .i64 st, .int .i64 ck, .int .i64 tr, .slice pc is.length cc, .slice (some ⟨g0, 0, none⟩) ths.length dc] ths.length g0 cells0) ∧ Hid (Blk wr g1 cells1 37) ∧ Hid (0 < m2 → ∃ cells2, Blk wr g2 cells2 42 ∧ m2 * 10 ≤ cells2.size) ∧ Hid (Below W5.heap.size W5 wr)) (fun j _ => m2 - (intOf j).toNat)
            case atStart => exact ⟨0, Nat.zero_le _, rfl, HOK, HBL1, HCL2, HB⟩
            case round =>
              clear b4 bl r0 lr s0 ls HOK HB HBL1 HCL2
              obtain ⟨wd, rfl⟩ : ∃ wd, wd = wr := ⟨_, rfl⟩
              obtain ⟨j, hj, rfl, HOK, HBL1, HCL2, HB⟩ := hrel
              have b4 := HOK.out.box.cell 4 (v := .slice (some ⟨g0, 0, none⟩) ths.length dc) rfl
              have bl := HOK.out.box.lt
              have r0 := (HOK.out.row (by have := HIT.out; omega)).cell i HXI.out
              have lr := lt_of_cell r0
              have s0 := HBL1.out.cell k HYK.out
              have ls := lt_of_cell s0
              by_cases hjm : j < m2
              · obtain ⟨hp2, hgl⟩ := HP2.out (by omega)
                subst hp2
                obtain ⟨cells2, hb2, hc2⟩ := HCL2.out (by omega)
                obtain ⟨y2, t0⟩ := hb2.some (j * 10) (by omega)
                have tf := hb2.free (j * 10)
                have HB2 := hid hb2
                have HCS := hid hc2
                have HGL := hid hgl
                have HJM := hid hjm
                have l1 : decide ((j : Int) < (m2 : Int)) = true := by rw [decide_eq_true_iff]; omega
                have l1n : decide (j < m2) = true := decide_eq_true hjm
                have l2 : (0 : Int) ≤ (j : Int) := by omega
                have l2n : (j : Int) < (m2 : Int) := by omega
                have l3 : IntKind.i64.wrap ((j : Int) + 1) = (j : Int) + 1 := IntWalk.i64_in _ (by have := HM2.out; omega)
                clear hb2 hc2 hgl hjm
                go_wp2_with fail
                go_roundw
                case rel => exact ⟨j + 1, HJM.out, by go_num, hid (HOK.out.set HB2.out (by decide) (by decide) (.inl (by decide))), hid (HBL1.out.set_other _ _ (blk_ne HBL1.out HB2.out (by decide))), hid (fun _ => ⟨_, HB2.out.set (j * 10) _, by have := HCS.out; simpa using this⟩), hid (ext_set HB.out (by have := HGL.out; dsimp only; omega) _)⟩
                case measure => have := HJM.out; simp [intOf]; omega
              · obtain rfl : j = m2 := by omega
                have l1 : decide ((j : Int) < (j : Int)) = false := by rw [decide_eq_false_iff_not]; omega
                have l1n : decide (j < j) = false := by simp
                have sf := HBL1.out.free k
                go_wp2_with fail
                go_roundw
                case rel => exact ⟨k + 1, HKM.out, by go_num, hid (HOK.out.set HBL1.out (by decide) (by decide) (.inr rfl)), hid (ext_set HB.out (by have := HG1.out; dsimp only; omega) _)⟩
                case measure => have := HKM.out; simp [intOf]; omega
          · obtain rfl : k = m := by omega
            have j1 : decide ((k : Int) < (k : Int)) = false := by rw [decide_eq_false_iff_not]; omega
            have j1n : decide (k < k) = false := by simp
            go_wp2_with fail
            go_roundw
            case rel => exact ⟨i + 1, HIT.out, by go_num, HOK, HB⟩
            case measure => have := HIT.out; simp [intOf]; omega
      · obtain rfl : i = ths.length := by omega
        have i1 : decide ((ths.length : Int) < (ths.length : Int)) = false := by rw [decide_eq_false_iff_not]; omega
        have i1n : decide (ths.length < ths.length) = false := by simp
        have HXF := hid (HX5.out.below HB.out)
        have HKF := hid (HXK.out.below HB.out)
        have HBF := hid (ext_trans HB5.out HB.out)
        have HB4F := ext_trans HB45.out HB.out
        have HSF := hid (rususame_any st ck tr st ck tr is is ths ths _ _ _ _ wa (HI.out.below HBF.out) (HKI.out _ HB4F) (HR.out.below HBF.out) (HKT.out _ HB4F) true (by simp))
        clear HOK HB HB4F
        have s0 := HXF.out.cell 0 (v := .int .i64 st) rfl
        have k0 := HKF.out.cell 0 (v := .int .i64 st) rfl
        have s1 := HXF.out.cell 1 (v := .int .i64 ck) rfl
        have k1 := HKF.out.cell 1 (v := .int .i64 ck) rfl
        have s2 := HXF.out.cell 2 (v := .int .i64 tr) rfl
        have k2 := HKF.out.cell 2 (v := .int .i64 tr) rfl
        have s3 := HXF.out.cell 3 (v := .slice pi is.length ci) rfl
        have k3 := HKF.out.cell 3 (v := .slice pk is.length ek) rfl
        have s4 := HXF.out.cell 4 (v := .slice a ths.length cap) rfl
        have k4 := HKF.out.cell 4 (v := .slice Ak ths.length dk) rfl
        have ls := HXF.out.lt
        have lk := HKF.out.lt
        go_wp2_with fail
        refine HSF.out.mono ?_
        rintro e wz ⟨rfl, hbz⟩
        have HBZ := hid (ext_trans HBF.out hbz)
        clear hbz s0 s1 s2 s3 s4 k0 k1 k2 k3 k4 ls lk
        go_wp2_with fail
        refine (sawake_any _).mono ?_
        rintro e wy ⟨rfl, hby⟩
        have hf := ext_trans HBZ.out hby
        go_wp2_with fail
        go_ret
        exact ⟨rfl, hf⟩
end Go.Proofs.Ytoeegiaajngpeaa
