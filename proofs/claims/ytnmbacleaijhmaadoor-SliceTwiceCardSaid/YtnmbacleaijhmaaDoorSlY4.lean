/-
  Walk: SliceTwice.
-/
import Derived.Test.YtnmbacleaijhmaaDoorSlY3
import Derived.Test.YtnmbacleaijhmaaDoorSgI
namespace Go.Proofs.YtnmbacleaijhmaaDoor
set_option linter.unusedVariables false
set_option linter.unusedSimpArgs false
set_option linter.unusedVariables false
open Go Go.RowKit
theorem RdI.take {w : World} {l : List Int} {a : Option Addr} {n cap k : Nat} (h : RdI w l (.slice a n cap)) (hk : k ≤ l.length) : RdI w (l.take k) (.slice a k cap) := by
  obtain ⟨a', c', e, h1, h2, h3, h4⟩ := h
  cases e
  have hl : (l.take k).length = k := by rw [List.length_take]; omega
  refine ⟨a, cap, by rw [hl], by omega, fun y hy => h2 y (List.mem_of_mem_take hy), fun hn => ?_, h4⟩
  obtain ⟨b, o, e1, h5⟩ := h3 (by rintro rfl; exact hn (by simp))
  exact ⟨b, o, e1, fun i hi => by rw [List.getElem_take]; exact h5 i (by rw [hl] at hi; omega)⟩
theorem Hist.check2 {T V S : Int} {l : List Ev} {s : Sh} (h : Hist T V S l s) (hl : l.length ≤ 1048576) : (checkT T V S l).2 = 0 := by
  unfold checkT
  rw [if_neg (by rw [h.size]; decide), if_neg (by omega)]
  have := (comes_iff l (newS T V S)).2 (by rw [h.run]; rfl)
  rw [if_neg (by omega)]
theorem byCode_of {T V S : Int} {l : List Ev} {F : List Int} (hc : (checkT T V S l).2 = 0) (hF : F.any (outV V) = false) : byCode T V S l F = 0 := by
  unfold byCode
  rw [hc, if_neg (by decide), hF]; rfl
theorem byEvs_of {T V S : Int} {l : List Ev} {F : List Int} (hc : (checkT T V S l).2 = 0) (hF : F.any (outV V) = false) : byEvs T V S l F = byF l (keptL (histT l).out F) l.length := by
  unfold byEvs
  rw [byCode_of hc hF, if_pos rfl]
set_option maxRecDepth 100000 in
set_option maxHeartbeats 4000000 in
theorem twi_great (T V S : Int) (a : Option Addr) (len cap : Nat) (vars : List Int) (vv : Value) (n : Int) (w : World) (hV : RdI w vars vv) (hl : 400 < len) :
    Calls Tryd.prog 5 #[trA T V S a len cap, vv, .int .i64 n] w fun e w' => e = .returned (.bool true) ∧ Below w.heap.size w w' := by
  have HW := hid works_any
  have j : decide ((400 : Int) < (len : Int)) = true := by rw [decide_eq_true_iff]; omega
  obtain ⟨av, cv, rfl, -⟩ := hV
  clear hl
  dsimp only [trA]
  have HB : Hid (Below w.heap.size w (w.alloc (.cells #[.int .i64 T, .int .i64 V, .int .i64 S, .slice a len cap] 36))) := hid (ext_alloc (ext_refl _) _)
  have d := (Blk.new w #[.int .i64 T, .int .i64 V, .int .i64 S, .slice a len cap] 36).cell 3 rfl
  go_enter Tryd.func5, Tryd.ntmps5
  go_wp2_with fail
  refine (HW.out _).mono ?_
  rintro e' w1 ⟨rfl, hb1⟩
  have d3 := later hb1 d
  have HB1 := hid (ext_trans HB.out hb1)
  clear hb1 d
  go_wp2_with fail
  refine (HW.out _).mono ?_
  rintro e' w2 ⟨rfl, hb2⟩
  have HB2 := hid (ext_trans HB1.out hb2)
  clear hb2
  go_wp2_with fail
  go_ret
  exact ⟨rfl, HB2.out⟩
set_option maxRecDepth 100000 in
set_option maxHeartbeats 4000000 in
theorem twi_great2 (T V S : Int) (a : Option Addr) (len cap : Nat) (vars : List Int) (vv : Value) (n : Int) (w : World) (hV : RdI w vars vv) (hl : len ≤ 400) (hv : 50 < vars.length) :
    Calls Tryd.prog 5 #[trA T V S a len cap, vv, .int .i64 n] w fun e w' => e = .returned (.bool true) ∧ Below w.heap.size w w' := by
  have HW := hid works_any
  have j : decide ((400 : Int) < (len : Int)) = false := by rw [decide_eq_false_iff_not]; omega
  have j2 : decide ((50 : Int) < (vars.length : Int)) = true := by rw [decide_eq_true_iff]; omega
  obtain ⟨av, cv, rfl, -⟩ := hV
  clear hl hv
  dsimp only [trA]
  have HB : Hid (Below w.heap.size w (w.alloc (.cells #[.int .i64 T, .int .i64 V, .int .i64 S, .slice a len cap] 36))) := hid (ext_alloc (ext_refl _) _)
  have d := (Blk.new w #[.int .i64 T, .int .i64 V, .int .i64 S, .slice a len cap] 36).cell 3 rfl
  go_enter Tryd.func5, Tryd.ntmps5
  go_wp2_with fail
  refine (HW.out _).mono ?_
  rintro e' w1 ⟨rfl, hb1⟩
  have d3 := later hb1 d
  have HB1 := hid (ext_trans HB.out hb1)
  clear hb1 d
  go_wp2_with fail
  refine (HW.out _).mono ?_
  rintro e' w2 ⟨rfl, hb2⟩
  have HB2 := hid (ext_trans HB1.out hb2)
  clear hb2
  go_wp2_with fail
  go_ret
  exact ⟨rfl, HB2.out⟩
set_option maxRecDepth 100000 in
set_option maxHeartbeats 4000000 in
theorem twi_bad (T V S : Int) (a : Option Addr) (l : List Ev) (cap : Nat) (vars : List Int) (vv : Value) (n : Int) (w : World) (hl : l.length ≤ 400) (hv : vars.length ≤ 50) (hc : byCode T V S l vars ≠ 0) (hV : RdI w vars vv) (hE : EvsAt w a l) (hK : KindsAt w) (hT : TabOk w) :
    Calls Tryd.prog 5 #[trA T V S a l.length cap, vv, .int .i64 n] w fun e w' => e = .returned (.bool true) ∧ Below w.heap.size w w' := by
  have HW := hid works_any
  have HBY := hid (fun W (hW : Below w.heap.size w W) => by_any T V S a l cap vars vv W (by omega) hv (hV.below hW) (hE.below hW) (hK.below hW) (hT.below hW))
  have j : decide ((400 : Int) < (l.length : Int)) = false := by rw [decide_eq_false_iff_not]; omega
  have j2 : decide ((50 : Int) < (vars.length : Int)) = false := by rw [decide_eq_false_iff_not]; omega
  unfold ByP at HBY
  generalize byCode T V S l vars = q at *
  have g1 : (q == 0) = false := beq_eq_false_iff_ne.2 hc
  have g2 : (q != 0) = true := bne_iff_ne.2 hc
  obtain ⟨av, cv, rfl, -⟩ := hV
  generalize byEvs T V S l vars = ES at *
  clear hl hK hT hE hc hv
  dsimp only [trA] at HBY ⊢
  have HB : Hid (Below w.heap.size w (w.alloc (.cells #[.int .i64 T, .int .i64 V, .int .i64 S, .slice a l.length cap] 36))) := hid (ext_alloc (ext_refl _) _)
  have d := Blk.new w #[.int .i64 T, .int .i64 V, .int .i64 S, .slice a l.length cap] 36
  go_enter Tryd.func5, Tryd.ntmps5
  go_wp2_with fail
  refine (HW.out _).mono ?_
  rintro e' w1 ⟨rfl, hb1⟩
  have HD1 := hid (d.below hb1)
  have d0 := HD1.out.cell 0 (v := .int .i64 T) rfl
  have d1 := HD1.out.cell 1 (v := .int .i64 V) rfl
  have d2 := HD1.out.cell 2 (v := .int .i64 S) rfl
  have d3 := HD1.out.cell 3 (v := .slice a l.length cap) rfl
  have HB1 := hid (ext_trans HB.out hb1)
  clear hb1 d
  go_wp2_with fail
  refine (HBY.out _ HB1.out).mono ?_
  rintro e' w2 ⟨T', V', S', v2, rfl, hb2, ho2, -⟩
  obtain ⟨ea, ec, rfl⟩ := own_sl' ho2
  have HB2 := hid (ext_alloc (ext_trans HB1.out hb2) (.cells #[.int .i64 T', .int .i64 V', .int .i64 S', .slice ea ES.length ec] 36))
  clear hb2 ho2 d0 d1 d2 d3
  go_wp2_with fail
  go_ret
  exact ⟨rfl, HB2.out⟩
set_option maxRecDepth 100000 in
set_option maxHeartbeats 40000000 in
theorem twi_ok (T V S : Int) (a : Option Addr) (l : List Ev) (cap : Nat) (vars : List Int) (av : Option Addr) (cv : Nat) (n : Int) (w : World) (hl : l.length ≤ 400) (hv : vars.length ≤ 50) (hcap : vars.length ≤ cv) (hc : byCode T V S l vars = 0) (hV : RdI w vars (.slice av vars.length cv)) (hE : EvsAt w a l) (hK : KindsAt w) (hT : TabOk w) :
    Calls Tryd.prog 5 #[trA T V S a l.length cap, .slice av vars.length cv, .int .i64 n] w fun e w' => e = .returned (.bool true) ∧ Below w.heap.size w w' := by
  have HW := hid works_any
  have hck : (checkT T V S l).2 = 0 := by
    unfold byCode at hc
    by_cases h : (checkT T V S l).2 = 0
    · exact h
    · rw [if_pos h] at hc; exact absurd hc h
  have hany : vars.any (outV V) = false := by
    unfold byCode at hc
    rw [hck, if_neg (by decide)] at hc
    cases h : vars.any (outV V) with
    | false => rfl
    | true => rw [h] at hc; cases hc
  obtain ⟨hz, -, s, hs⟩ := checkT_fine hck
  have hks := keptL_is (histT l).out vars
  obtain ⟨q0, hq0, -, -⟩ := slice_all hs hks.1 (kept_closed hs vars)
  obtain ⟨k, hk⟩ : ∃ k : Nat, n % 18446744073709551616 % ((vars.length : Int) + 1) = (k : Int) := Int.eq_ofNat_of_zero_le (Int.emod_nonneg _ (by omega))
  have hkl : k ≤ vars.length := by
    have := Int.emod_lt_of_pos (n % 18446744073709551616) (show (0 : Int) < (vars.length : Int) + 1 by omega)
    omega
  have hk2 : wrap64 ((IntKind.u64.wrap n).tmod ((vars.length : Int) + 1)) = (k : Int) := by
    rw [IntKind.wrap_u64, Int.tmod_eq_emod_of_nonneg (by omega), hk]
    unfold wrap64; omega
  have jk : (0 : Int) ≤ (k : Int) := by omega
  have jk2 : (k : Int) ≤ (cv : Int) := by omega
  have hlk : (vars.take k).length = k := by rw [List.length_take]; omega
  have hsub : ∀ v ∈ vars.take k, v ∈ vars := fun v h => List.mem_of_mem_take h
  have hanyF : (vars.take k).any (outV V) = false := by
    rw [List.any_eq_false] at hany ⊢
    exact fun v h => hany v (hsub v h)
  have hlE := byF_len l (keptL (histT l).out vars) l.length
  have hcs := hq0.check2 (by omega)
  have e1 : byEvs T V S l vars = byF l (keptL (histT l).out vars) l.length := byEvs_of hck hany
  have e2 : byEvs T V S (byF l (keptL (histT l).out vars) l.length) vars = byF l (keptL (histT l).out vars) l.length := by rw [byEvs_of hcs hany]; exact slice_same hs vars
  have e3 : byEvs T V S (byF l (keptL (histT l).out vars) l.length) (vars.take k) = byF l (keptL (histT l).out (vars.take k)) l.length := by rw [byEvs_of hcs hanyF]; exact slice_slice hs hsub
  have e4 : byEvs T V S l (vars.take k) = byF l (keptL (histT l).out (vars.take k)) l.length := byEvs_of hck hanyF
  have hokS : ∀ e ∈ byF l (keptL (histT l).out vars) l.length, EvOk e := byF_ok hE.1
  have hokF : ∀ e ∈ byF l (keptL (histT l).out (vars.take k)) l.length, EvOk e := byF_ok hE.1
  have hlF := byF_len l (keptL (histT l).out (vars.take k)) l.length
  have HB1' := hid (fun W (hW : Below w.heap.size w W) => by_any T V S a l cap vars (.slice av vars.length cv) W (by omega) hv (hV.below hW) (hE.below hW) (hK.below hW) (hT.below hW))
  have HB2' := hid (fun W (hW : Below w.heap.size w W) (a' : Option Addr) (c' : Nat) (h' : EvsAt W a' (byF l (keptL (histT l).out vars) l.length)) => by_any T V S a' (byF l (keptL (histT l).out vars) l.length) c' vars (.slice av vars.length cv) W (by omega) hv (hV.below hW) h' (hK.below hW) (hT.below hW))
  have HB3' := hid (fun W (hW : Below w.heap.size w W) (a' : Option Addr) (c' : Nat) (h' : EvsAt W a' (byF l (keptL (histT l).out vars) l.length)) => by_any T V S a' (byF l (keptL (histT l).out vars) l.length) c' (vars.take k) (.slice av k cv) W (by omega) (by omega) ((hV.take hkl).below hW) h' (hK.below hW) (hT.below hW))
  have HB4' := hid (fun W (hW : Below w.heap.size w W) => by_any T V S a l cap (vars.take k) (.slice av k cv) W (by omega) (by omega) ((hV.take hkl).below hW) (hE.below hW) (hK.below hW) (hT.below hW))
  unfold ByP at HB1' HB2' HB3' HB4'
  rw [hc, e1] at HB1'
  rw [byCode_of hcs hany, e2] at HB2'
  rw [byCode_of hcs hanyF, e3] at HB3'
  rw [byCode_of hck hanyF, e4] at HB4'
  generalize byF l (keptL (histT l).out vars) l.length = ES at *
  generalize byF l (keptL (histT l).out (vars.take k)) l.length = EF at *
  have j : decide ((400 : Int) < (l.length : Int)) = false := by rw [decide_eq_false_iff_not]; omega
  have j2 : decide ((50 : Int) < (vars.length : Int)) = false := by rw [decide_eq_false_iff_not]; omega
  have j4 : IntKind.i64.wrap ((vars.length : Int) + 1) = (vars.length : Int) + 1 := IntWalk.i64_in _ (by omega)
  have j5 : IntKind.u64.wrap ((vars.length : Int) + 1) = (vars.length : Int) + 1 := by simp [IntKind.wrap, IntKind.signed, IntKind.bits]; omega
  have j6 : ¬ ((vars.length : Int) + 1 = 0) := by omega
  have j7 : (((vars.length : Int) + 1) == 0) = false := beq_eq_false_iff_ne.2 j6
  have HOKS := hid hokS
  have HOKF := hid hokF
  have HSM := hid same_tr
  have HLE : Hid (ES.length ≤ 1000000000 ∧ EF.length ≤ 1000000000) := hid (by omega)
  clear hl hv hcap hc hV hE hK hT hck hany hz hs hks hq0 hkl hlk hsub hanyF hlE hcs e1 e2 e3 e4 hokS hokF hlF
  dsimp only [trA] at HB1' HB2' HB3' HB4' HSM ⊢
  have HB : Hid (Below w.heap.size w (w.alloc (.cells #[.int .i64 T, .int .i64 V, .int .i64 S, .slice a l.length cap] 36))) := hid (ext_alloc (ext_refl _) _)
  have HD := hid (Blk.new w #[.int .i64 T, .int .i64 V, .int .i64 S, .slice a l.length cap] 36)
  go_enter Tryd.func5, Tryd.ntmps5
  go_wp2_with fail
  refine (HW.out _).mono ?_
  rintro e' w1 ⟨rfl, hb1⟩
  have HD1 := hid (HD.out.below hb1)
  have d0 := HD1.out.cell 0 (v := .int .i64 T) rfl
  have d1 := HD1.out.cell 1 (v := .int .i64 V) rfl
  have d2 := HD1.out.cell 2 (v := .int .i64 S) rfl
  have d3 := HD1.out.cell 3 (v := .slice a l.length cap) rfl
  have HA1 := hid (ext_trans HB.out hb1)
  clear hb1 HD HB
  go_wp2_with fail
  refine (HB1'.out _ HA1.out).mono ?_
  rintro e' w2 ⟨T', V', S', v2, rfl, hb2, ho2, hsz⟩
  obtain ⟨rfl, rfl, rfl⟩ := hsz (by first | rfl | trivial)
  obtain ⟨ea, ec, rfl, hev⟩ := evs_of_own ho2 HOKS.out
  have HAL := hid (ext_alloc (ext_refl w2) (.cells #[.int .i64 T', .int .i64 V', .int .i64 S', .slice ea ES.length ec] 36))
  have HD2 := hid ((HD1.out.below hb2).below HAL.out)
  have HS2 := hid (Blk.new w2 #[.int .i64 T', .int .i64 V', .int .i64 S', .slice ea ES.length ec] 36)
  have HE2 := hid (hev.below HAL.out)
  have HA2 := hid (ext_trans (ext_trans HA1.out hb2) HAL.out)
  clear hb2 ho2 hev d0 d1 d2 d3 hsz HD1 HA1 HAL
  have s0 := HS2.out.cell 0 (v := .int .i64 T') rfl
  have s1 := HS2.out.cell 1 (v := .int .i64 V') rfl
  have s2 := HS2.out.cell 2 (v := .int .i64 S') rfl
  have s3 := HS2.out.cell 3 (v := .slice ea ES.length ec) rfl
  go_wp2_with fail
  refine (HB2'.out _ HA2.out _ _ HE2.out).mono ?_
  rintro e' w3 ⟨T2, V2, S2, v3, rfl, hb3, ho3, hsz⟩
  obtain ⟨rfl, rfl, rfl⟩ := hsz (by first | rfl | trivial)
  obtain ⟨ua, uc, rfl, heu⟩ := evs_of_own ho3 HOKS.out
  have HAL := hid (ext_alloc (ext_refl w3) (.cells #[.int .i64 T2, .int .i64 V2, .int .i64 S2, .slice ua ES.length uc] 36))
  have HD3 := hid ((HD2.out.below hb3).below HAL.out)
  have HS3 := hid ((HS2.out.below hb3).below HAL.out)
  have HU3 := hid (Blk.new w3 #[.int .i64 T2, .int .i64 V2, .int .i64 S2, .slice ua ES.length uc] 36)
  have HE3 := hid ((HE2.out.below hb3).below HAL.out)
  have HEU3 := hid (heu.below HAL.out)
  have HA3 := hid (ext_trans (ext_trans HA2.out hb3) HAL.out)
  clear hb3 ho3 heu s0 s1 s2 s3 hsz HD2 HS2 HE2 HA2 HAL
  have s0 := HS3.out.cell 0 (v := .int .i64 T2) rfl
  have s1 := HS3.out.cell 1 (v := .int .i64 V2) rfl
  have s2 := HS3.out.cell 2 (v := .int .i64 S2) rfl
  have s3 := HS3.out.cell 3 (v := .slice ea ES.length ec) rfl
  go_wp2_with fail
  refine (HB3'.out _ HA3.out _ _ HE3.out).mono ?_
  rintro e' w4 ⟨T3, V3, S3, v4, rfl, hb4, ho4, hsz⟩
  obtain ⟨rfl, rfl, rfl⟩ := hsz (by first | rfl | trivial)
  obtain ⟨va, vc, rfl, hevv⟩ := evs_of_own ho4 HOKF.out
  have HAL := hid (ext_alloc (ext_refl w4) (.cells #[.int .i64 T3, .int .i64 V3, .int .i64 S3, .slice va EF.length vc] 36))
  have HD4 := hid ((HD3.out.below hb4).below HAL.out)
  have HS4 := hid ((HS3.out.below hb4).below HAL.out)
  have HU4 := hid ((HU3.out.below hb4).below HAL.out)
  have HV4 := hid (Blk.new w4 #[.int .i64 T3, .int .i64 V3, .int .i64 S3, .slice va EF.length vc] 36)
  have HE4 := hid ((HE3.out.below hb4).below HAL.out)
  have HEU4 := hid ((HEU3.out.below hb4).below HAL.out)
  have HEV4 := hid (hevv.below HAL.out)
  have HA4 := hid (ext_trans (ext_trans HA3.out hb4) HAL.out)
  clear hb4 ho4 hevv s0 s1 s2 s3 hsz HD3 HS3 HU3 HE3 HEU3 HA3 HAL
  have d0 := HD4.out.cell 0 (v := .int .i64 T3) rfl
  have d1 := HD4.out.cell 1 (v := .int .i64 V3) rfl
  have d2 := HD4.out.cell 2 (v := .int .i64 S3) rfl
  have d3 := HD4.out.cell 3 (v := .slice a l.length cap) rfl
  go_wp2_with fail
  refine (HB4'.out _ HA4.out).mono ?_
  rintro e' w5 ⟨T4, V4, S4, v5, rfl, hb5, ho5, hsz⟩
  obtain ⟨rfl, rfl, rfl⟩ := hsz (by first | rfl | trivial)
  obtain ⟨wa, wc, rfl, hew⟩ := evs_of_own ho5 HOKF.out
  have HAL := hid (ext_alloc (ext_refl w5) (.cells #[.int .i64 T4, .int .i64 V4, .int .i64 S4, .slice wa EF.length wc] 36))
  have HS5 := hid ((HS4.out.below hb5).below HAL.out)
  have HU5 := hid ((HU4.out.below hb5).below HAL.out)
  have HV5 := hid ((HV4.out.below hb5).below HAL.out)
  have HW5 := hid (Blk.new w5 #[.int .i64 T4, .int .i64 V4, .int .i64 S4, .slice wa EF.length wc] 36)
  have HE5 := hid ((HE4.out.below hb5).below HAL.out)
  have HEU5 := hid ((HEU4.out.below hb5).below HAL.out)
  have HEV5 := hid ((HEV4.out.below hb5).below HAL.out)
  have HEW5 := hid (hew.below HAL.out)
  have HA5 := hid (ext_trans (ext_trans HA4.out hb5) HAL.out)
  clear hb5 ho5 hew d0 d1 d2 d3 hsz HD4 HS4 HU4 HV4 HE4 HEU4 HEV4 HA4 HAL
  have s0 := HS5.out.cell 0 (v := .int .i64 T4) rfl
  have s1 := HS5.out.cell 1 (v := .int .i64 V4) rfl
  have s2 := HS5.out.cell 2 (v := .int .i64 S4) rfl
  have s3 := HS5.out.cell 3 (v := .slice ea ES.length ec) rfl
  have u0 := HU5.out.cell 0 (v := .int .i64 T4) rfl
  have u1 := HU5.out.cell 1 (v := .int .i64 V4) rfl
  have u2 := HU5.out.cell 2 (v := .int .i64 S4) rfl
  have u3 := HU5.out.cell 3 (v := .slice ua ES.length uc) rfl
  go_wp2_with fail
  refine (HSM.out T4 V4 S4 ea ua ES ec uc _ HE5.out HEU5.out HLE.out.1).mono ?_
  rintro e' w6 ⟨rfl, hb6⟩
  have HV6 := hid (HV5.out.below hb6)
  have HW6 := hid (HW5.out.below hb6)
  have HEV6 := hid (HEV5.out.below hb6)
  have HEW6 := hid (HEW5.out.below hb6)
  have HA6 := hid (ext_trans HA5.out hb6)
  clear hb6 s0 s1 s2 s3 u0 u1 u2 u3
  have s0 := HV6.out.cell 0 (v := .int .i64 T4) rfl
  have s1 := HV6.out.cell 1 (v := .int .i64 V4) rfl
  have s2 := HV6.out.cell 2 (v := .int .i64 S4) rfl
  have s3 := HV6.out.cell 3 (v := .slice va EF.length vc) rfl
  have u0 := HW6.out.cell 0 (v := .int .i64 T4) rfl
  have u1 := HW6.out.cell 1 (v := .int .i64 V4) rfl
  have u2 := HW6.out.cell 2 (v := .int .i64 S4) rfl
  have u3 := HW6.out.cell 3 (v := .slice wa EF.length wc) rfl
  go_wp2_with fail
  refine (HSM.out T4 V4 S4 va wa EF vc wc _ HEV6.out HEW6.out HLE.out.2).mono ?_
  rintro e' w7 ⟨rfl, hb7⟩
  have HA7 := hid (ext_trans HA6.out hb7)
  clear hb7 s0 s1 s2 s3 u0 u1 u2 u3
  go_wp2_with fail
  go_ret
  exact ⟨rfl, HA7.out⟩
theorem sliceTwice_any (T V S : Int) (a : Option Addr) (l : List Ev) (cap : Nat) (vars : List Int) (av : Option Addr) (cv : Nat) (n : Int) (w : World) (hcap : vars.length ≤ cv) (hV : RdI w vars (.slice av vars.length cv)) (hE : EvsAt w a l) (hK : KindsAt w) (hT : TabOk w) :
    Calls Tryd.prog 5 #[trA T V S a l.length cap, .slice av vars.length cv, .int .i64 n] w fun e w' => e = .returned (.bool true) ∧ Below w.heap.size w w' := by
  by_cases hl : 400 < l.length
  · exact twi_great T V S a l.length cap vars _ n w hV hl
  · by_cases hv : 50 < vars.length
    · exact twi_great2 T V S a l.length cap vars _ n w hV (by omega) hv
    · by_cases hc : byCode T V S l vars = 0
      · exact twi_ok T V S a l cap vars av cv n w (by omega) (by omega) hcap hc hV hE hK hT
      · exact twi_bad T V S a l cap vars _ n w (by omega) (by omega) hc hV hE hK hT
end Go.Proofs.YtnmbacleaijhmaaDoor
