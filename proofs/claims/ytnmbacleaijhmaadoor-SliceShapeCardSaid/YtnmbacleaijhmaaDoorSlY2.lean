/-
  Walk: SliceShape (printed by tools/gen_sly2.py).
-/
import Derived.Test.YtnmbacleaijhmaaDoorSlC4
import Derived.Test.YtnmbacleaijhmaaDoorSgI
import Derived.Test.YtnmbacleaijhmaaDoorSlY1
import Derived.Test.YtnmbacleaijhmaaDoorHiB
namespace Go.Proofs.YtnmbacleaijhmaaDoor
set_option linter.unusedVariables false
set_option linter.unusedSimpArgs false
set_option linter.unusedVariables false
open Go Go.RowKit
theorem RdAtts.at {w : World} {L : List Att} {v : Value} (h : RdAtts w L v) {k : Nat} (hk : k < L.length) : ∃ b o cap r u, v = .slice (some ⟨b, o, none⟩) L.length cap ∧ AttC w b (o + k * 9) (L.getD k Att.zero) r u := by
  obtain ⟨a, cap, rfl, _, hx⟩ := h
  obtain ⟨b, o, rfl, hc⟩ := hx (by intro h; rw [h] at hk; simp at hk)
  obtain ⟨r, u, h1⟩ := hc k hk
  refine ⟨b, o, cap, r, u, rfl, ?_⟩
  rw [List.getD_eq_getElem?_getD, List.getElem?_eq_getElem hk]
  exact h1
theorem RdAtts.sl {w : World} {L : List Att} {v : Value} (h : RdAtts w L v) : ∃ a cap, v = .slice a L.length cap := by
  obtain ⟨a, cap, h1, _⟩ := h
  exact ⟨a, cap, h1⟩
theorem Hist.check' {T V S : Int} {l : List Ev} {s : Sh} (h : Hist T V S l s) (hl : l.length ≤ 1048576) : (checkT T V S l).2 = 0 := by
  unfold checkT
  rw [if_neg (by rw [h.size]; decide), if_neg (by omega)]
  have := (comes_iff l (newS T V S)).2 (by rw [h.run]; rfl)
  rw [if_neg (by omega)]
set_option maxRecDepth 100000 in
set_option maxHeartbeats 4000000 in
theorem shp_great (T V S : Int) (a : Option Addr) (len cap : Nat) (vars : List Int) (vv : Value) (w : World) (hV : RdI w vars vv) (hl : 600 < len) :
    Calls Tryd.prog 4 #[trA T V S a len cap, vv] w fun e w' => e = .returned (.bool true) ∧ Below w.heap.size w w' := by
  have HW := hid works_any
  have j : decide ((600 : Int) < (len : Int)) = true := by rw [decide_eq_true_iff]; omega
  skip
  obtain ⟨av, cv, rfl, -⟩ := hV
  clear hl
  dsimp only [trA]
  have HB : Hid (Below w.heap.size w (w.alloc (.cells #[.int .i64 T, .int .i64 V, .int .i64 S, .slice a len cap] 36))) := hid (ext_alloc (ext_refl _) _)
  have d := (Blk.new w #[.int .i64 T, .int .i64 V, .int .i64 S, .slice a len cap] 36).cell 3 rfl
  go_enter Tryd.func4, Tryd.ntmps4
  go_wp2_with fail
  refine (HW.out _).mono ?_
  rintro e' w1 ⟨rfl, hb1⟩
  have d3 := later hb1 d
  have HB1 := hid (ext_trans HB.out hb1)
  clear hb1 d
  go_wp2_with fail
  refine (HW.out _).mono ?_
  rintro e' w2 ⟨rfl, hb2⟩
  have HB2 := hid (ext_trans HB1.out hb2)
  clear hb2
  go_wp2_with fail
  go_ret
  exact ⟨rfl, HB2.out⟩
set_option maxRecDepth 100000 in
set_option maxHeartbeats 4000000 in
theorem shp_great2 (T V S : Int) (a : Option Addr) (len cap : Nat) (vars : List Int) (vv : Value) (w : World) (hV : RdI w vars vv) (hl : len ≤ 600) (hv : 50 < vars.length) :
    Calls Tryd.prog 4 #[trA T V S a len cap, vv] w fun e w' => e = .returned (.bool true) ∧ Below w.heap.size w w' := by
  have HW := hid works_any
  have j : decide ((600 : Int) < (len : Int)) = false := by rw [decide_eq_false_iff_not]; omega
  have j2 : decide ((50 : Int) < (vars.length : Int)) = true := by rw [decide_eq_true_iff]; omega
  obtain ⟨av, cv, rfl, -⟩ := hV
  clear hl hv
  dsimp only [trA]
  have HB : Hid (Below w.heap.size w (w.alloc (.cells #[.int .i64 T, .int .i64 V, .int .i64 S, .slice a len cap] 36))) := hid (ext_alloc (ext_refl _) _)
  have d := (Blk.new w #[.int .i64 T, .int .i64 V, .int .i64 S, .slice a len cap] 36).cell 3 rfl
  go_enter Tryd.func4, Tryd.ntmps4
  go_wp2_with fail
  refine (HW.out _).mono ?_
  rintro e' w1 ⟨rfl, hb1⟩
  have d3 := later hb1 d
  have HB1 := hid (ext_trans HB.out hb1)
  clear hb1 d
  go_wp2_with fail
  refine (HW.out _).mono ?_
  rintro e' w2 ⟨rfl, hb2⟩
  have HB2 := hid (ext_trans HB1.out hb2)
  clear hb2
  go_wp2_with fail
  go_ret
  exact ⟨rfl, HB2.out⟩
set_option maxRecDepth 100000 in
set_option maxHeartbeats 4000000 in
theorem shp_no (T V S : Int) (a : Option Addr) (l : List Ev) (cap : Nat) (vars : List Int) (vv : Value) (w : World) (hl : l.length ≤ 600) (hv : vars.length ≤ 50) (hc : (checkT T V S l).2 ≠ 0) (hV : RdI w vars vv) (hE : EvsAt w a l) (hK : KindsAt w) (hT : TabOk w) :
    Calls Tryd.prog 4 #[trA T V S a l.length cap, vv] w fun e w' => e = .returned (.bool true) ∧ Below w.heap.size w w' := by
  have HW := hid works_any
  have HC := hid (fun W (hW : Below w.heap.size w W) => of_any T V S a l cap W (hE.below hW) (hK.below hW) (hT.below hW))
  have HBY := hid (fun W (hW : Below w.heap.size w W) => by_any T V S a l cap vars vv W hl hv (hV.below hW) (hE.below hW) (hK.below hW) (hT.below hW))
  have j : decide ((600 : Int) < (l.length : Int)) = false := by rw [decide_eq_false_iff_not]; omega
  have j2 : decide ((50 : Int) < (vars.length : Int)) = false := by rw [decide_eq_false_iff_not]; omega
  unfold OfP at HC
  unfold ByP at HBY
  have hcd : byCode T V S l vars = (checkT T V S l).2 := if_pos hc
  rw [hcd] at HBY
  obtain ⟨q, hq⟩ : ∃ q, (checkT T V S l).2 = q := ⟨_, rfl⟩
  rw [hq] at HC HBY hc
  have g1 : (q == 0) = false := beq_eq_false_iff_ne.2 hc
  have g2 : (q != 0) = true := bne_iff_ne.2 hc
  have g3 : (q == q) = true := beq_self_eq_true q
  obtain ⟨av, cv, rfl, -⟩ := hV
  generalize byEvs T V S l vars = ES at *
  clear hl hK hT hE hc hq hv hcd
  dsimp only [trA] at HC HBY ⊢
  have HB : Hid (Below w.heap.size w (w.alloc (.cells #[.int .i64 T, .int .i64 V, .int .i64 S, .slice a l.length cap] 36))) := hid (ext_alloc (ext_refl _) _)
  have d := Blk.new w #[.int .i64 T, .int .i64 V, .int .i64 S, .slice a l.length cap] 36
  go_enter Tryd.func4, Tryd.ntmps4
  go_wp2_with fail
  refine (HW.out _).mono ?_
  rintro e' w1 ⟨rfl, hb1⟩
  have HD1 := hid (d.below hb1)
  have d0 := HD1.out.cell 0 (v := .int .i64 T) rfl
  have d1 := HD1.out.cell 1 (v := .int .i64 V) rfl
  have d2 := HD1.out.cell 2 (v := .int .i64 S) rfl
  have d3 := HD1.out.cell 3 (v := .slice a l.length cap) rfl
  have HB1 := hid (ext_trans HB.out hb1)
  clear hb1 d
  go_wp2_with fail
  refine (HBY.out _ HB1.out).mono ?_
  rintro e' w2 ⟨T', V', S', v2, rfl, hb2, ho2, -⟩
  obtain ⟨ea, ec, rfl⟩ := own_sl' ho2
  have HD2 := hid ((HD1.out.below hb2).alloc (.cells #[.int .i64 T', .int .i64 V', .int .i64 S', .slice ea ES.length ec] 36))
  have HB2 := hid (ext_alloc (ext_trans HB1.out hb2) (.cells #[.int .i64 T', .int .i64 V', .int .i64 S', .slice ea ES.length ec] 36))
  clear hb2 ho2 d0 d1 d2 d3
  have d0 := HD2.out.cell 0 (v := .int .i64 T) rfl
  have d1 := HD2.out.cell 1 (v := .int .i64 V) rfl
  have d2 := HD2.out.cell 2 (v := .int .i64 S) rfl
  have d3 := HD2.out.cell 3 (v := .slice a l.length cap) rfl
  go_wp2_with fail
  refine (HC.out _ HB2.out).mono ?_
  rintro e' w3 ⟨vo, rfl, hb3, hat⟩
  have HB3 := hid (ext_trans HB2.out hb3)
  clear hb3 hat
  go_wp2_with fail
  go_ret
  exact ⟨rfl, HB3.out⟩
set_option maxRecDepth 100000 in
set_option maxHeartbeats 40000000 in
theorem shp_ok (T V S : Int) (a : Option Addr) (l : List Ev) (cap : Nat) (vars : List Int) (vv : Value) (w : World) (hl : l.length ≤ 600) (hv : vars.length ≤ 50) (hc : (checkT T V S l).2 = 0) (hV : RdI w vars vv) (hE : EvsAt w a l) (hK : KindsAt w) (hT : TabOk w) :
    Calls Tryd.prog 4 #[trA T V S a l.length cap, vv] w fun e w' => e = .returned (.bool true) ∧ Below w.heap.size w w' := by
  have HW := hid works_any
  have HC := hid (fun W (hW : Below w.heap.size w W) => of_any T V S a l cap W (hE.below hW) (hK.below hW) (hT.below hW))
  have HBY := hid (fun W (hW : Below w.heap.size w W) => by_any T V S a l cap vars vv W hl hv (hV.below hW) (hE.below hW) (hK.below hW) (hT.below hW))
  have j : decide ((600 : Int) < (l.length : Int)) = false := by rw [decide_eq_false_iff_not]; omega
  have j2 : decide ((50 : Int) < (vars.length : Int)) = false := by rw [decide_eq_false_iff_not]; omega
  obtain ⟨hz, -, s, hs⟩ := checkT_fine hc
  unfold OfP at HC
  simp only [hc, if_true] at HC
  unfold ByP at HBY
  have hbig := big_tr hl hv
  obtain ⟨hs1, hs2⟩ := hist_small (l := l)
  have hN := attN_all hE.1 (by omega)
  have HRD := hid (fun (W : World) (n₀ : Nat) (v : Value) (h : AttsAt W n₀ v (histT l).out) => h.rd hN (by omega) (fun q hq => by have := hs2 q hq; omega))
  have HKP := hid (fun w' vl vv h1 h2 => kept_any (histT l).out vars w' vl vv h1 h2 hbig (by omega))
  have hks := (keptL_is (histT l).out vars)
  obtain ⟨q0, hq0, hML, hAR⟩ := slice_all hs hks.1 (kept_closed hs vars)
  have hES := byF_len l (keptL (histT l).out vars) l.length
  have hcs := hq0.check' (by omega)
  have hokS : ∀ e ∈ byF l (keptL (histT l).out vars) l.length, EvOk e := byF_ok hE.1
  obtain ⟨ht1, ht2⟩ := hist_small (l := byF l (keptL (histT l).out vars) l.length)
  have hNS := attN_all hokS (by omega)
  have HRS := hid (fun (W : World) (n₀ : Nat) (v : Value) (h : AttsAt W n₀ v (histT (byF l (keptL (histT l).out vars) l.length)).out) => h.rd hNS (by omega) (fun q hq => by have := ht2 q hq; omega))
  have HCS := hid (fun W (hW : Below w.heap.size w W) (a' : Option Addr) (c' : Nat) (h' : EvsAt W a' (byF l (keptL (histT l).out vars) l.length)) => of_any T V S a' (byF l (keptL (histT l).out vars) l.length) c' W h' (hK.below hW) (hT.below hW))
  have HCK := hid (fun W (hW : Below w.heap.size w W) (a' : Option Addr) (c' : Nat) (h' : EvsAt W a' (byF l (keptL (histT l).out vars) l.length)) => check_all T V S a' (byF l (keptL (histT l).out vars) l.length) c' W h' (hK.below hW) (hT.below hW))
  unfold OfP at HCS
  simp only [hcs, if_true] at HCS
  obtain ⟨pp, qq, hpq⟩ : ∃ p q, checkT T V S (byF l (keptL (histT l).out vars) l.length) = (p, q) := ⟨_, _, rfl⟩
  rw [hpq] at HCK hcs
  dsimp only at HCK hcs
  subst hcs
  have hc1 := byCode_two (T := T) (V := V) (S := S) (vars := vars) hc
  have hevs : byCode T V S l vars = 0 → byEvs T V S l vars = byF l (keptL (histT l).out vars) l.length := fun h => by unfold byEvs; rw [if_pos h]
  have hMK := matK_all l (keptL (histT l).out vars)
  have hMS : ∀ i, matK l (byF l (keptL (histT l).out vars) l.length) i ≤ (byF l (keptL (histT l).out vars) l.length).length := fun i => matK_le l _ i
  have hkl : (keptL (histT l).out vars).length ≤ 600 := by have := keptH_len (L := (histT l).out) (vars := vars); omega
  have hklt := hks.lt
  generalize byCode T V S l vars = cd at *
  generalize byEvs T V S l vars = EV at *
  generalize byF l (keptL (histT l).out vars) l.length = ES at *
  generalize keptL (histT l).out vars = K at *
  generalize (histT l).out = L at *
  generalize (histT ES).out = M at *
  have HV := hid hV
  have HE := hid hE
  have HEL := hid (And.intro hkl (And.intro hES hl))
  have HML := hid hML
  have HAR := hid hAR
  have HKLT := hid hklt
  have HMK := hid hMK
  have HMS := hid hMS
  have HOK := hid hokS
  have HLL : Hid (L.length ≤ 600) := hid (by omega)
  have HEQ := hid run_eql_ev
  have HPR := hid pairs_same
  have HR1 : Hid (∀ x ∈ L, x.reads.length ≤ 1000000000 ∧ x.writes.length ≤ 1000000000) := hid (fun x hx => by have := hs2 x hx; omega)
  obtain ⟨av, cv, rfl, -⟩ := hV
  clear hl hK hT hE hc hv hz hs hbig hs1 hs2 hN hkl hks hq0 hML hAR hES hokS ht1 ht2 hNS hpq hMK hMS hklt
  dsimp only [trA] at HC HBY HCS HCK ⊢
  have HB : Hid (Below w.heap.size w (w.alloc (.cells #[.int .i64 T, .int .i64 V, .int .i64 S, .slice a l.length cap] 36))) := hid (ext_alloc (ext_refl _) _)
  have HD := hid (Blk.new w #[.int .i64 T, .int .i64 V, .int .i64 S, .slice a l.length cap] 36)
  go_enter Tryd.func4, Tryd.ntmps4
  go_wp2_with fail
  refine (HW.out _).mono ?_
  rintro e' w1 ⟨rfl, hb1⟩
  have HD1 := hid (HD.out.below hb1)
  have d0 := HD1.out.cell 0 (v := .int .i64 T) rfl
  have d1 := HD1.out.cell 1 (v := .int .i64 V) rfl
  have d2 := HD1.out.cell 2 (v := .int .i64 S) rfl
  have d3 := HD1.out.cell 3 (v := .slice a l.length cap) rfl
  have HB1 := hid (ext_trans HB.out hb1)
  clear hb1 HD HB
  go_wp2_with fail
  refine (HBY.out _ HB1.out).mono ?_
  rintro e' w2 ⟨T', V', S', v2, rfl, hb2, ho2, hsz⟩
  have HEV0 := hid ho2
  obtain ⟨ea, ec, rfl⟩ := own_sl' ho2
  have HD2 := hid ((HD1.out.below hb2).alloc (.cells #[.int .i64 T', .int .i64 V', .int .i64 S', .slice ea EV.length ec] 36))
  have HN2 := hid (Blk.new w2 #[.int .i64 T', .int .i64 V', .int .i64 S', .slice ea EV.length ec] 36)
  have HA2 := hid (ext_alloc (ext_refl w2) (.cells #[.int .i64 T', .int .i64 V', .int .i64 S', .slice ea EV.length ec] 36))
  have HB2 := hid (ext_alloc (ext_trans HB1.out hb2) (.cells #[.int .i64 T', .int .i64 V', .int .i64 S', .slice ea EV.length ec] 36))
  clear hb2 ho2 d0 d1 d2 d3 HD1 HB1
  have d0 := HD2.out.cell 0 (v := .int .i64 T) rfl
  have d1 := HD2.out.cell 1 (v := .int .i64 V) rfl
  have d2 := HD2.out.cell 2 (v := .int .i64 S) rfl
  have d3 := HD2.out.cell 3 (v := .slice a l.length cap) rfl
  go_wp2_with fail
  refine (HC.out _ HB2.out).mono ?_
  rintro e' w3 ⟨vo, rfl, hb3, hat⟩
  have HRA := hid (HRD.out _ _ _ hat)
  have HB3 := hid (ext_trans HB2.out hb3)
  have HD3 := hid (HD2.out.below hb3)
  have HN3 := hid (HN2.out.below hb3)
  have HA3 := hid (ext_trans HA2.out hb3)
  clear hb3 hat d0 d1 d2 d3 HD2 HB2 HN2 HA2
  rcases hc1 with rfl | rfl
  case inr =>
    go_wp2_with fail
    go_ret
    exact ⟨rfl, HB3.out⟩
  obtain ⟨rfl, rfl, rfl⟩ := hsz rfl
  obtain rfl := hevs rfl
  have HEV3 : Hid (EvsAt w3 ea EV) := hid (by
    obtain ⟨a1, c1, e1, h1⟩ := evs_of_own HEV0.out HOK.out
    cases e1
    exact h1.below HA3.out)
  have n0 := HN3.out.cell 0 (v := .int .i64 T') rfl
  have n1 := HN3.out.cell 1 (v := .int .i64 V') rfl
  have n2 := HN3.out.cell 2 (v := .int .i64 S') rfl
  have n3 := HN3.out.cell 3 (v := .slice ea EV.length ec) rfl
  clear hsz hevs HEV0
  go_wp2_with fail
  refine (HCK.out _ HB3.out _ _ HEV3.out).mono ?_
  rintro e' w4 ⟨rfl, hb4⟩
  have HB4 := hid (ext_trans HB3.out hb4)
  have HD4 := hid (HD3.out.below hb4)
  have HN4 := hid (HN3.out.below hb4)
  have HEV4 := hid (HEV3.out.below hb4)
  have HRA4 := hid (HRA.out.below hb4)
  clear hb4 n0 n1 n2 n3 HB3 HD3 HN3 HEV3 HRA
  have n0 := HN4.out.cell 0 (v := .int .i64 T') rfl
  have n1 := HN4.out.cell 1 (v := .int .i64 V') rfl
  have n2 := HN4.out.cell 2 (v := .int .i64 S') rfl
  have n3 := HN4.out.cell 3 (v := .slice ea EV.length ec) rfl
  go_wp2_with fail
  refine (HCS.out _ HB4.out _ _ HEV4.out).mono ?_
  rintro e' w5 ⟨vm, rfl, hb5, hatm⟩
  have HRM := hid (HRS.out _ _ _ hatm)
  have HB5 := hid (ext_trans HB4.out hb5)
  have HD5 := hid (HD4.out.below hb5)
  have HN5 := hid (HN4.out.below hb5)
  have HEV5 := hid (HEV4.out.below hb5)
  have HRA5 := hid (HRA4.out.below hb5)
  clear hb5 hatm n0 n1 n2 n3 HB4 HD4 HN4 HEV4 HRA4
  go_wp2_with fail
  refine (HKP.out _ _ _ HRA5.out (HV.out.below HB5.out)).mono ?_
  rintro e' w6 ⟨vk, rfl, hok, hb6⟩
  have HRK := hid (rdNats_of_own hok)
  have HRM6 := hid (HRM.out.below hb6)
  have HRA6 := hid (HRA5.out.below hb6)
  have HB6 := hid (ext_trans HB5.out hb6)
  have HD6 := hid (HD5.out.below hb6)
  have HN6 := hid (HN5.out.below hb6)
  have HEV6 := hid (HEV5.out.below hb6)
  obtain ⟨ka, kc, rfl⟩ := own_sl' hok
  obtain ⟨la, lc, hvo⟩ := HRA6.out.sl
  subst hvo
  obtain ⟨ma, mc, hvm⟩ := HRM6.out.sl
  subst hvm
  clear hb6 hok HB5 HD5 HN5 HEV5 HRM HRA5
  have d0 := HD6.out.cell 0 (v := .int .i64 T') rfl
  have d1 := HD6.out.cell 1 (v := .int .i64 V') rfl
  have d2 := HD6.out.cell 2 (v := .int .i64 S') rfl
  have n0 := HN6.out.cell 0 (v := .int .i64 T') rfl
  have n1 := HN6.out.cell 1 (v := .int .i64 V') rfl
  have n2 := HN6.out.cell 2 (v := .int .i64 S') rfl
  have m0 : ((M.length : Int) != (K.length : Int)) = false := by rw [HML.out]; simp
  have m1 : ((M.length : Int) == (K.length : Int)) = true := by rw [HML.out]; simp
  have m2 : (M.length == K.length) = true := by rw [HML.out]; simp
  have m3 : (M.length != K.length) = false := by rw [HML.out]; simp
  go_wp2_with fail
  clear d0 d1 d2 n0 n1 n2 m0 m1 m2 m3
  go_loopw [14] (fun i wr => ∃ q : Nat, q ≤ M.length ∧ i = .int .i64 (q : Int) ∧ Hid (Below w6.heap.size w6 wr)) (fun i _ => M.length - (intOf i).toNat)
  case atStart => exact ⟨0, Nat.zero_le _, rfl, hid (ext_refl _)⟩
  case round =>
    obtain ⟨q, hq, rfl, HBR⟩ := hrel
    by_cases hlt : q < M.length
    · have HLT := hid hlt
      have hqK : q < K.length := by rw [← HML.out]; exact hlt
      have hmem := List.getElem_mem (l := K) hqK
      have hmL := HKLT.out _ hmem
      have hR := HAR.out q hqK
      obtain ⟨b2, o2, mc', r2, u2, hs2, hA2⟩ := HRM6.out.at hlt
      cases hs2
      obtain ⟨b1, o1, lc', r1, u1, hs1, hA1⟩ := HRA6.out.at hmL
      cases hs1
      obtain ⟨ka', kc', hsk, hrk⟩ := HRK.out
      obtain ⟨kb, ko, hka, hrk2⟩ := hrk (by intro h; rw [h] at hqK; simp at hqK)
      cases hsk
      subst hka
      have k0 := later HBR.out (hrk2 q hqK)
      generalize K[q] = m at *
      have hxr := HR1.out (L.getD m Att.zero) (by rw [List.getD_eq_getElem?_getD, List.getElem?_eq_getElem hmL]; exact List.getElem_mem hmL)
      obtain ⟨B, hB⟩ : ∃ B, L.getD m Att.zero = B := ⟨_, rfl⟩
      obtain ⟨A, hA⟩ : ∃ A, M.getD q Att.zero = A := ⟨_, rfl⟩
      rw [hB] at hR hA1 hxr
      rw [hA] at hR hA2
      have hA1 := hA1.below HBR.out
      have hA2 := hA2.below HBR.out
      obtain ⟨th', tx', fr, tw, rv', wv', com', rds', wrs'⟩ := B
      obtain ⟨th, tx, fr2, tw2, rv, wv, com, rds, wrs⟩ := A
      obtain ⟨s1, s2, s3, s4, s5, s6, s7, s8⟩ := hR
      dsimp only at s1 s2 s3 s4 s5 s6 s7 s8 hxr
      subst s1; subst s2; subst s3; subst s4; subst s5; subst s6; subst s7
      have HP1 : Hid (RdPairs wr rds r1) := hid hA1.reads
      have HP2 : Hid (RdPairs wr rds r2) := hid hA2.reads
      have HP3 : Hid (RdPairs wr wrs u1) := hid hA1.writes
      have HP4 : Hid (RdPairs wr wrs u2) := hid hA2.writes
      obtain ⟨rx, rc, hr1⟩ := HP1.out.shape
      obtain ⟨rx2, rc2, hr2⟩ := HP2.out.shape
      obtain ⟨wx, wc, hu1⟩ := HP3.out.shape
      obtain ⟨wx2, wc2, hu2⟩ := HP4.out.shape
      subst hr1 hr2 hu1 hu2
      have c0 : wr.cell? ⟨b1, o1 + m * 9, none⟩ = some (.int .i64 th) := hA1.c0
      have c1 : wr.cell? ⟨b1, o1 + m * 9 + 1, none⟩ = some (.int .i64 tx) := hA1.c1
      have c2 : wr.cell? ⟨b1, o1 + m * 9 + 2, none⟩ = some (.int .i64 fr) := hA1.c2
      have c3 : wr.cell? ⟨b1, o1 + m * 9 + 3, none⟩ = some (.int .i64 tw) := hA1.c3
      have c4 : wr.cell? ⟨b1, o1 + m * 9 + 4, none⟩ = some (.int .i64 rv) := hA1.c4
      have c5 : wr.cell? ⟨b1, o1 + m * 9 + 5, none⟩ = some (.int .i64 wv) := hA1.c5
      have c6 : wr.cell? ⟨b1, o1 + m * 9 + 6, none⟩ = some (.bool com) := hA1.c6
      have c7 : wr.cell? ⟨b1, o1 + m * 9 + 7, none⟩ = some (.slice rx rds.length rc) := hA1.c7
      have c8 : wr.cell? ⟨b1, o1 + m * 9 + 8, none⟩ = some (.slice wx wrs.length wc) := hA1.c8
      have a0 : wr.cell? ⟨b2, o2 + q * 9, none⟩ = some (.int .i64 th) := hA2.c0
      have a1 : wr.cell? ⟨b2, o2 + q * 9 + 1, none⟩ = some (.int .i64 tx) := hA2.c1
      have a2 : wr.cell? ⟨b2, o2 + q * 9 + 2, none⟩ = some (.int .i64 fr2) := hA2.c2
      have a3 : wr.cell? ⟨b2, o2 + q * 9 + 3, none⟩ = some (.int .i64 tw2) := hA2.c3
      have a4 : wr.cell? ⟨b2, o2 + q * 9 + 4, none⟩ = some (.int .i64 rv) := hA2.c4
      have a5 : wr.cell? ⟨b2, o2 + q * 9 + 5, none⟩ = some (.int .i64 wv) := hA2.c5
      have a6 : wr.cell? ⟨b2, o2 + q * 9 + 6, none⟩ = some (.bool com) := hA2.c6
      have a7 : wr.cell? ⟨b2, o2 + q * 9 + 7, none⟩ = some (.slice rx2 rds.length rc2) := hA2.c7
      have a8 : wr.cell? ⟨b2, o2 + q * 9 + 8, none⟩ = some (.slice wx2 wrs.length wc2) := hA2.c8
      have hbl1 := lt_of_cell c0
      have hbl2 := lt_of_cell a0
      have hbl3 := lt_of_cell k0
      have j1 : decide ((q : Int) < (M.length : Int)) = true := by rw [decide_eq_true_iff]; omega
      have j3 : (0 : Int) ≤ (q : Int) := by omega
      have j4 : IntKind.i64.wrap ((q : Int) + 1) = ((q + 1 : Nat) : Int) := by have := HML.out; have := HEL.out; rw [IntWalk.i64_in _ (by omega)]; omega
      have j5 : decide ((m : Int) < 0) = false := by rw [decide_eq_false_iff_not]; omega
      have j6 : decide ((L.length : Int) ≤ (m : Int)) = false := by rw [decide_eq_false_iff_not]; omega
      have j7 : (0 : Int) ≤ (m : Int) := by omega
      have j8 : decide ((m : Int) < (L.length : Int)) = true := by rw [decide_eq_true_iff]; omega
      have j9 : decide ((q : Int) < (K.length : Int)) = true := by rw [decide_eq_true_iff]; omega
      have j10 : decide (q < K.length) = true := by rw [decide_eq_true_iff]; omega
      have j11 : decide (q < M.length) = true := by rw [decide_eq_true_iff]; omega
      have j12 : decide (m < L.length) = true := by rw [decide_eq_true_iff]; omega
      have HXR := hid hxr
      have S8 := hid s8
      clear hA1 hA2 hA hB hrk hrk2 hmem s8 hxr
      go_wp2_with fail
      apply wp_region_inv' (Bx wr 11 (fun i => [.slice (some ⟨b2, o2, none⟩) M.length mc, .int .i64 (q : Int), .pointer (some ⟨b2, o2 + q * 9, none⟩), .agg #[.int .i64 th, .int .i64 tx, .int .i64 fr2, .int .i64 tw2, .int .i64 rv, .int .i64 wv, .bool com, .slice rx2 rds.length rc2, .slice wx2 wrs.length wc2], .slice (some ⟨b1, o1, none⟩) L.length lc, .slice (some ⟨kb, ko, none⟩) K.length kc, .int .i64 (q : Int), .pointer (some ⟨kb, ko + q, none⟩), .int .i64 (m : Int), .pointer (some ⟨b1, o1 + m * 9, none⟩), .agg #[.int .i64 th, .int .i64 tx, .int .i64 fr, .int .i64 tw, .int .i64 rv, .int .i64 wv, .bool com, .slice rx rds.length rc, .slice wx wrs.length wc]].getD i undef) (fun c => if c = 0 then #[.int .i64 th, .int .i64 tx, .int .i64 fr2, .int .i64 tw2, .int .i64 rv, .int .i64 wv, .bool com, .slice rx2 rds.length rc2, .slice wx2 wrs.length wc2] else #[.int .i64 th, .int .i64 tx, .int .i64 fr, .int .i64 tw, .int .i64 rv, .int .i64 wv, .bool com, .slice rx rds.length rc, .slice wx wrs.length wc]) 27)
      focus (intro vals; simp [putAll, dstOf, Act.put]; rfl)
      case hm => kernel_rfl
      case hd => kernel_rfl
      case hb => kernel_rfl
      case hng => kernel_rfl
      case hsz => kernel_rfl
      case hext => exact fun l l' v w' h H => H.ext h
      case h0 => exact Bx.start (ext_drew (ext_refl _))
      case hstep =>
        refine ⟨?_, ?_, ?_, ?_, ?_, ?_, ?_, ?_, ?_, ?_, ?_, ?_, ?_, ?_, ?_, trivial⟩
        all_goals (
          intro l vs w' hi hd hJ
          refine ⟨(fun g b h => by cases h), fun _ ρ h1 h2 h3 h4 h5 => ?_⟩)
        · have f := h5 11 (by kernel_rfl)
          have HJ := hid hJ
          clear hJ
          unfold OpY
          go_simp
          exact Bx.get 0 (by omega) HJ.out
        · have f := h5 14 (by kernel_rfl)
          have HJ := hid hJ
          clear hJ
          unfold OpY
          go_simp
          exact Bx.get 1 (by omega) HJ.out
        · have fa := (h4 0 120 (by kernel_rfl) (by kernel_rfl)).trans (hJ.knw 0 (by omega) (hd 0 (by kernel_rfl)))
          have fb := (h4 1 121 (by kernel_rfl) (by kernel_rfl)).trans (hJ.knw 1 (by omega) (hd 1 (by kernel_rfl)))
          dsimp only [List.getD, List.getElem?_cons_zero, List.getElem?_cons_succ, Option.getD] at fa fb
          have HJ := hid hJ
          clear hJ
          unfold OpY
          go_simp
          exact Bx.get 2 (by omega) HJ.out
        · have fa := (h4 2 122 (by kernel_rfl) (by kernel_rfl)).trans (hJ.knw 2 (by omega) (hd 2 (by kernel_rfl)))
          dsimp only [List.getD, List.getElem?_cons_zero, List.getElem?_cons_succ, Option.getD] at fa
          have x0 := later hJ.mid a0
          have x1 := later hJ.mid a1
          have x2 := later hJ.mid a2
          have x3 := later hJ.mid a3
          have x4 := later hJ.mid a4
          have x5 := later hJ.mid a5
          have x6 := later hJ.mid a6
          have x7 := later hJ.mid a7
          have x8 := later hJ.mid a8
          have HJ := hid hJ
          clear hJ
          unfold OpY
          go_simp
          exact Bx.get 3 (by omega) HJ.out
        · have f := h5 7 (by kernel_rfl)
          have HJ := hid hJ
          clear hJ
          unfold OpY
          go_simp
          exact Bx.get 4 (by omega) HJ.out
        · have f := h5 13 (by kernel_rfl)
          have HJ := hid hJ
          clear hJ
          unfold OpY
          go_simp
          exact Bx.get 5 (by omega) HJ.out
        · have f := h5 14 (by kernel_rfl)
          have HJ := hid hJ
          clear hJ
          unfold OpY
          go_simp
          exact Bx.get 6 (by omega) HJ.out
        · have fa := (h4 5 125 (by kernel_rfl) (by kernel_rfl)).trans (hJ.knw 5 (by omega) (hd 5 (by kernel_rfl)))
          have fb := (h4 6 126 (by kernel_rfl) (by kernel_rfl)).trans (hJ.knw 6 (by omega) (hd 6 (by kernel_rfl)))
          dsimp only [List.getD, List.getElem?_cons_zero, List.getElem?_cons_succ, Option.getD] at fa fb
          have HJ := hid hJ
          clear hJ
          unfold OpY
          go_simp
          exact Bx.get 7 (by omega) HJ.out
        · have fa := (h4 7 127 (by kernel_rfl) (by kernel_rfl)).trans (hJ.knw 7 (by omega) (hd 7 (by kernel_rfl)))
          dsimp only [List.getD, List.getElem?_cons_zero, List.getElem?_cons_succ, Option.getD] at fa
          have x0 := later hJ.mid k0
          have HJ := hid hJ
          clear hJ
          unfold OpY
          go_simp
          exact Bx.get 8 (by omega) HJ.out
        · have fa := (h4 4 124 (by kernel_rfl) (by kernel_rfl)).trans (hJ.knw 4 (by omega) (hd 4 (by kernel_rfl)))
          have fb := (h4 8 128 (by kernel_rfl) (by kernel_rfl)).trans (hJ.knw 8 (by omega) (hd 8 (by kernel_rfl)))
          dsimp only [List.getD, List.getElem?_cons_zero, List.getElem?_cons_succ, Option.getD] at fa fb
          have HJ := hid hJ
          clear hJ
          unfold OpY
          go_simp
          exact Bx.get 9 (by omega) HJ.out
        · have fa := (h4 9 129 (by kernel_rfl) (by kernel_rfl)).trans (hJ.knw 9 (by omega) (hd 9 (by kernel_rfl)))
          dsimp only [List.getD, List.getElem?_cons_zero, List.getElem?_cons_succ, Option.getD] at fa
          have x0 := later hJ.mid c0
          have x1 := later hJ.mid c1
          have x2 := later hJ.mid c2
          have x3 := later hJ.mid c3
          have x4 := later hJ.mid c4
          have x5 := later hJ.mid c5
          have x6 := later hJ.mid c6
          have x7 := later hJ.mid c7
          have x8 := later hJ.mid c8
          have HJ := hid hJ
          clear hJ
          unfold OpY
          go_simp
          exact Bx.get 10 (by omega) HJ.out
        · have HJ := hid hJ
          clear hJ
          unfold OpY
          go_simp
          exact Bx.alloc rfl 0 (by omega) hi HJ.out
        · have HJ := hid hJ
          clear hJ
          unfold OpY
          go_simp
          exact Bx.alloc rfl 1 (by omega) hi HJ.out
        · have g1 := hd 11 (by kernel_rfl)
          have g2 := hJ.knw 3 (by omega) (hd 3 (by kernel_rfl))
          obtain ⟨b, cs, g3, g4, g5, g6, -⟩ := hJ.als 0 (by omega) g1
          obtain ⟨y0, y1, y2, y3, y4, y5, y6, y7, y8, rfl⟩ := arr9 g6
          have f1 := (h4 11 15 (by kernel_rfl) (by kernel_rfl)).trans g3
          have f2 := (h4 3 123 (by kernel_rfl) (by kernel_rfl)).trans g2
          dsimp only [List.getD, List.getElem?_cons_zero, List.getElem?_cons_succ, Option.getD] at f2
          have HH := hid g5
          have z0 := HH.out.free 0
          have z1 := HH.out.free 1
          have z2 := HH.out.free 2
          have z3 := HH.out.free 3
          have z4 := HH.out.free 4
          have z5 := HH.out.free 5
          have z6 := HH.out.free 6
          have z7 := HH.out.free 7
          have z8 := HH.out.free 8
          have r0 := HH.out.cell 0 (v := y0) rfl
          have r1 := HH.out.cell 1 (v := y1) rfl
          have r2 := HH.out.cell 2 (v := y2) rfl
          have r3 := HH.out.cell 3 (v := y3) rfl
          have r4 := HH.out.cell 4 (v := y4) rfl
          have r5 := HH.out.cell 5 (v := y5) rfl
          have r6 := HH.out.cell 6 (v := y6) rfl
          have r7 := HH.out.cell 7 (v := y7) rfl
          have r8 := HH.out.cell 8 (v := y8) rfl
          have G3 := hid g3
          clear g2 g3 g5
          have HJ := hid hJ
          clear hJ
          unfold OpY
          go_simp
          exact Bx.store 0 b (by omega) rfl g1 G3.out HJ.out
        · have g1 := hd 12 (by kernel_rfl)
          have g2 := hJ.knw 10 (by omega) (hd 10 (by kernel_rfl))
          obtain ⟨b, cs, g3, g4, g5, g6, -⟩ := hJ.als 1 (by omega) g1
          obtain ⟨y0, y1, y2, y3, y4, y5, y6, y7, y8, rfl⟩ := arr9 g6
          have f1 := (h4 12 16 (by kernel_rfl) (by kernel_rfl)).trans g3
          have f2 := (h4 10 130 (by kernel_rfl) (by kernel_rfl)).trans g2
          dsimp only [List.getD, List.getElem?_cons_zero, List.getElem?_cons_succ, Option.getD] at f2
          have HH := hid g5
          have z0 := HH.out.free 0
          have z1 := HH.out.free 1
          have z2 := HH.out.free 2
          have z3 := HH.out.free 3
          have z4 := HH.out.free 4
          have z5 := HH.out.free 5
          have z6 := HH.out.free 6
          have z7 := HH.out.free 7
          have z8 := HH.out.free 8
          have r0 := HH.out.cell 0 (v := y0) rfl
          have r1 := HH.out.cell 1 (v := y1) rfl
          have r2 := HH.out.cell 2 (v := y2) rfl
          have r3 := HH.out.cell 3 (v := y3) rfl
          have r4 := HH.out.cell 4 (v := y4) rfl
          have r5 := HH.out.cell 5 (v := y5) rfl
          have r6 := HH.out.cell 6 (v := y6) rfl
          have r7 := HH.out.cell 7 (v := y7) rfl
          have r8 := HH.out.cell 8 (v := y8) rfl
          have G3 := hid g3
          clear g2 g3 g5
          have HJ := hid hJ
          clear hJ
          unfold OpY
          go_simp
          exact Bx.store 1 b (by omega) rfl g1 G3.out HJ.out
      case hdone =>
        intro vs w7 hJ
        obtain ⟨bb0, d0, e0, g0, k0', -, z0⟩ := hJ.als 0 (by omega) rfl
        obtain ⟨bb1, d1, e1, g1', k1, -, z1⟩ := hJ.als 1 (by omega) rfl
        obtain rfl := z0 rfl
        obtain rfl := z1 rfl
        have e0 : vs 11 = _ := e0
        have e1 : vs 12 = _ := e1
        rw [e0, e1]
        have HMID := hid hJ.mid
        have kk0 : Blk w7 bb0 #[.int .i64 th, .int .i64 tx, .int .i64 fr2, .int .i64 tw2, .int .i64 rv, .int .i64 wv, .bool com, .slice rx2 rds.length rc2, .slice wx2 wrs.length wc2] 27 := k0'
        have kk1 : Blk w7 bb1 #[.int .i64 th, .int .i64 tx, .int .i64 fr, .int .i64 tw, .int .i64 rv, .int .i64 wv, .bool com, .slice rx rds.length rc, .slice wx wrs.length wc] 27 := k1
        have x0 := kk0.cell 0 (v := .int .i64 th) rfl
        have x1 := kk0.cell 1 (v := .int .i64 tx) rfl
        have x2 := kk0.cell 2 (v := .int .i64 fr2) rfl
        have x3 := kk0.cell 3 (v := .int .i64 tw2) rfl
        have x4 := kk0.cell 4 (v := .int .i64 rv) rfl
        have x5 := kk0.cell 5 (v := .int .i64 wv) rfl
        have x6 := kk0.cell 6 (v := .bool com) rfl
        have x7 := kk0.cell 7 (v := .slice rx2 rds.length rc2) rfl
        have x8 := kk0.cell 8 (v := .slice wx2 wrs.length wc2) rfl
        have y0 := kk1.cell 0 (v := .int .i64 th) rfl
        have y1 := kk1.cell 1 (v := .int .i64 tx) rfl
        have y2 := kk1.cell 2 (v := .int .i64 fr) rfl
        have y3 := kk1.cell 3 (v := .int .i64 tw) rfl
        have y4 := kk1.cell 4 (v := .int .i64 rv) rfl
        have y5 := kk1.cell 5 (v := .int .i64 wv) rfl
        have y6 := kk1.cell 6 (v := .bool com) rfl
        have y7 := kk1.cell 7 (v := .slice rx rds.length rc) rfl
        have y8 := kk1.cell 8 (v := .slice wx wrs.length wc) rfl
        have hb0 := kk0.lt
        have hb1 := kk1.lt
        have HK0 := hid kk0
        have HK1 := hid kk1
        clear hJ z0 z1 e0 e1 k0' k1 kk0 kk1 c0 c1 c2 c3 c4 c5 c6 c7 c8 a0 a1 a2 a3 a4 a5 a6 a7 a8 k0 hbl1 hbl2 hbl3
        have t0 : (th != th) = false := by simp
        have t1 : (tx != tx) = false := by simp
        have t2 : (rv != rv) = false := by simp
        have t3 : (wv != wv) = false := by simp
        have t4 : (com != com) = false := by cases com <;> rfl
        have t5 : (com == com) = true := by cases com <;> rfl
        obtain ⟨p, hp⟩ : ∃ p, (tw == -1) = p := ⟨_, rfl⟩
        have hp2 : (tw2 == -1) = p := by rw [← hp]; have := S8.out; rw [Bool.eq_iff_iff, beq_iff_eq, beq_iff_eq]; exact this
        cases p
        all_goals (
          go_wp2_with fail
          refine (HPR.out rds w7 _ _ (HP2.out.below HMID.out) (HP1.out.below HMID.out) HXR.out.1).mono ?_
          rintro e' w8 ⟨rfl, hb8⟩
          have x8' := later hb8 x8
          have y8' := later hb8 y8
          go_wp2_with fail
          refine (HPR.out wrs w8 _ _ ((HP4.out.below HMID.out).below hb8) ((HP3.out.below HMID.out).below hb8) HXR.out.2).mono ?_
          rintro e' w9 ⟨rfl, hb9⟩
          go_wp2_with fail
          go_roundw
          case rel => exact ⟨q + 1, HLT.out, by go_num, hid (ext_trans (ext_trans (HBR.out.trans (HMID.out.mono HBR.out.size)) hb8) hb9)⟩
          case measure => exact (by have := HLT.out; dsimp only [intOf]; omega))
    · obtain rfl : q = M.length := by omega
      have j1 : decide ((M.length : Int) < (M.length : Int)) = false := by rw [decide_eq_false_iff_not]; omega
      have j4 : decide (M.length < M.length) = false := by rw [decide_eq_false_iff_not]; omega
      go_wp2_with fail
      have HB7 := hid (ext_trans HB6.out HBR.out)
      have HD7 := hid (HD6.out.below HBR.out)
      have HN7 := hid (HN6.out.below HBR.out)
      have HEV7 := hid (HEV6.out.below HBR.out)
      have HE7 := hid (HE.out.below HB7.out)
      clear HB6 HD6 HN6 HEV6 HE HRK HRM6 HRA6 j1 j4
      obtain ⟨wz, rfl⟩ : ∃ wz, wz = wr := ⟨_, rfl⟩
      go_loopw [17, 18] (fun p i wr => ∃ k : Nat, k ≤ l.length ∧ i = .int .i64 (k : Int) ∧ p = .int .i64 (matK l EV k : Nat) ∧ Hid (Below wz.heap.size wz wr)) (fun p i _ => l.length - (intOf i).toNat)
      case atStart => exact ⟨0, Nat.zero_le _, rfl, rfl, hid (ext_refl _)⟩
      case round =>
        obtain ⟨k, hk, rfl, rfl, HBQ⟩ := hrel
        have hd7 := HD7.out.below HBQ.out
        have hn7 := HN7.out.below HBQ.out
        have d3 := hd7.cell 3 (v := .slice a l.length cap) rfl
        have n3 := hn7.cell 3 (v := .slice ea EV.length ec) rfl
        clear hd7 hn7
        have hms := HMS.out k
        by_cases hlt : k < l.length
        · have j1 : decide ((k : Int) < (l.length : Int)) = true := by rw [decide_eq_true_iff]; omega
          have j3 : (0 : Int) ≤ (k : Int) := by omega
          have j4 : IntKind.i64.wrap ((k : Int) + 1) = ((k + 1 : Nat) : Int) := by have := HEL.out; rw [IntWalk.i64_in _ (by omega)]; omega
          obtain ⟨g, hg⟩ : ∃ g, matK l EV k = g := ⟨_, rfl⟩
          have hnext : matK l EV (k + 1) = if eqAt l EV k g = true then g + 1 else g := by rw [← hg]; rfl
          rw [hg] at hms ⊢
          by_cases hge : g < EV.length
          · have i1 : decide ((g : Int) < (EV.length : Int)) = true := by rw [decide_eq_true_iff]; omega
            have i3 : (0 : Int) ≤ (g : Int) := by omega
            have i4 : IntKind.i64.wrap ((g : Int) + 1) = ((g + 1 : Nat) : Int) := by have := HEL.out; rw [IntWalk.i64_in _ (by omega)]; omega
            obtain ⟨b, o, hae, hcell⟩ := HE7.out.2 (by intro h; rw [h] at hlt; simp at hlt)
            obtain ⟨b', o', hae', hcell'⟩ := HEV7.out.2 (by intro h; rw [h] at hge; simp at hge)
            subst hae hae'
            have heq : eqAt l EV k g = evEqB l[k] EV[g] := by unfold eqAt; rw [List.getElem?_eq_getElem hlt, List.getElem?_eq_getElem hge]; rfl
            have HEL' := hid (HEQ.out l[k] EV[g])
            obtain ⟨X, hX⟩ : ∃ X, l[k] = X := ⟨_, rfl⟩
            obtain ⟨Y, hY⟩ : ∃ Y, EV[g] = Y := ⟨_, rfl⟩
            have hc1 := hcell k hlt
            have hc2 := hcell' g hge
            rw [hX] at hc1 heq HEL'
            rw [hY] at hc2 heq HEL'
            obtain ⟨kind, th, tx, at_, v, x, why⟩ := X
            obtain ⟨kind2, th2, tx2, at2, v2, x2, why2⟩ := Y
            have e0 := later HBQ.out (hc1 0 (.int .u8 kind) rfl)
            have e1 := later HBQ.out (hc1 1 (.int .i64 th) rfl)
            have e2 := later HBQ.out (hc1 2 (.int .i64 tx) rfl)
            have e3 := later HBQ.out (hc1 3 (.int .i64 at_) rfl)
            have e4 := later HBQ.out (hc1 4 (.int .i64 v) rfl)
            have e5 := later HBQ.out (hc1 5 (.int .i64 x) rfl)
            have e6 := later HBQ.out (hc1 6 (.int .u8 why) rfl)
            have f0 := later HBQ.out (hc2 0 (.int .u8 kind2) rfl)
            have f1 := later HBQ.out (hc2 1 (.int .i64 th2) rfl)
            have f2 := later HBQ.out (hc2 2 (.int .i64 tx2) rfl)
            have f3 := later HBQ.out (hc2 3 (.int .i64 at2) rfl)
            have f4 := later HBQ.out (hc2 4 (.int .i64 v2) rfl)
            have f5 := later HBQ.out (hc2 5 (.int .i64 x2) rfl)
            have f6 := later HBQ.out (hc2 6 (.int .u8 why2) rfl)
            rw [Nat.add_zero] at e0 f0
            have hbl := lt_of_cell e0
            have hbl' := lt_of_cell f0
            obtain ⟨q, hq⟩ : ∃ q, eqAt l EV k g = q := ⟨_, rfl⟩
            rw [hq] at heq hnext
            have hrun : ∀ w, (Op.equal 32 (.agg #[.int .u8 kind, .int .i64 th, .int .i64 tx, .int .i64 at_, .int .i64 v, .int .i64 x, .int .u8 why]) (.agg #[.int .u8 kind2, .int .i64 th2, .int .i64 tx2, .int .i64 at2, .int .i64 v2, .int .i64 x2, .int .u8 why2])).run Tryd.prog w = .ok q w := fun w => by rw [heq]; exact HEL'.out w
            unfold Op.equal Op.maxDepth at hrun
            have HLT := hid hlt
            have HNX := hid hnext
            clear hcell hcell' hc1 hc2 hX hY heq hq hnext HEL' hg
            cases q
            case true =>
              go_wp2_with fail
              go_quiet (fail)
              go_wp2_with fail
              go_roundw
              case rel => exact ⟨k + 1, HLT.out, by go_num, by rw [HNX.out]; first | rfl | go_num, hid (by first | exact ext_drewN HBQ.out _ | exact HBQ.out)⟩
              case measure => have := HLT.out; simp [intOf]; omega
            case false =>
              go_wp2_with fail
              go_quiet (fail)
              go_wp2_with fail
              go_roundw
              case rel => exact ⟨k + 1, HLT.out, by go_num, by rw [HNX.out]; first | rfl | go_num, hid (by first | exact ext_drewN HBQ.out _ | exact HBQ.out)⟩
              case measure => have := HLT.out; simp [intOf]; omega
          · obtain rfl : g = EV.length := by omega
            have i1 : decide ((EV.length : Int) < (EV.length : Int)) = false := by rw [decide_eq_false_iff_not]; omega
            clear hnext hg
            go_wp2_with fail
            go_ret
            exact ⟨rfl, ext_trans HB7.out HBQ.out⟩
        · obtain rfl : k = l.length := by omega
          have j1 : decide ((l.length : Int) < (l.length : Int)) = false := by rw [decide_eq_false_iff_not]; omega
          rw [HMK.out]
          go_wp2_with fail
          go_ret
          exact ⟨rfl, ext_trans HB7.out HBQ.out⟩
theorem sliceShape_any (T V S : Int) (a : Option Addr) (l : List Ev) (cap : Nat) (vars : List Int) (vv : Value) (w : World) (hV : RdI w vars vv) (hE : EvsAt w a l) (hK : KindsAt w) (hT : TabOk w) :
    Calls Tryd.prog 4 #[trA T V S a l.length cap, vv] w fun e w' => e = .returned (.bool true) ∧ Below w.heap.size w w' := by
  by_cases hl : 600 < l.length
  · exact shp_great T V S a l.length cap vars vv w hV hl
  · by_cases hv : 50 < vars.length
    · exact shp_great2 T V S a l.length cap vars vv w hV (by omega) hv
    · by_cases hc : (checkT T V S l).2 = 0
      · exact shp_ok T V S a l cap vars vv w (by omega) (by omega) hc hV hE hK hT
      · exact shp_no T V S a l cap vars vv w (by omega) (by omega) hc hV hE hK hT
end Go.Proofs.YtnmbacleaijhmaaDoor
