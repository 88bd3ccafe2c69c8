/-
  Walks: TraceBody, TraceBack.
-/
import Derived.Test.YtnblhodhkifeeaaGreatDoorTrGZ
namespace Go.Proofs.YtnblhodhkifeeaaGreatDoor
set_option linter.unusedVariables false
set_option linter.unusedSimpArgs false
open Go Go.RowKit
set_option maxRecDepth 100000 in
set_option maxHeartbeats 4000000 in
theorem traceBody_great (b : ByteArray) (w : World) (hK : KindsAt w) (hT : TabOk w) (hb : 20000 < b.size) : Calls Tryz.prog 5 #[.string b] w fun e' w' => e' = .returned (.bool true) ∧ Below w.heap.size w w' := by
  have HWK := hid (fun w' (h : Below w.heap.size w w') => works_any w' (hK.below h) (hT.below h))
  have g1 : decide ((20000 : Int) < (b.size : Int)) = true := by rw [decide_eq_true_iff]; omega
  have g2 : decide (20000 < b.size) = true := by rw [decide_eq_true_iff]; omega
  obtain ⟨Q, hQ⟩ : ∃ Q : Ending → World → Prop, Q = fun e' w' => e' = .returned (.bool true) ∧ Below w.heap.size w w' := ⟨_, rfl⟩
  rw [← hQ]
  have HQ := hid hQ
  clear hK hT hb hQ
  go_enter Tryz.func5, Tryz.ntmps5
  go_wp2_with fail
  refine (HWK.out w (ext_refl _)).mono ?_
  rintro e' w1 ⟨rfl, hb1⟩
  have HW1 := hid (HWK.out w1 hb1)
  have HB1 := hid hb1
  clear hb1
  go_wp2_with fail
  refine HW1.out.mono ?_
  rintro e' w2 ⟨rfl, hb2⟩
  go_wp2_with fail
  rw [HQ.out]
  exact ⟨rfl, ext_trans HB1.out hb2⟩
set_option maxRecDepth 100000 in
set_option maxHeartbeats 4000000 in
theorem traceBody_small (b : ByteArray) (w : World) (hK : KindsAt w) (hT : TabOk w) (hb : b.size ≤ 20000) : Calls Tryz.prog 5 #[.string b] w fun e' w' => e' = .returned (.bool true) ∧ Below w.heap.size w w' := by
  have HWK := hid (works_any w hK hT)
  have g1 : decide ((20000 : Int) < (b.size : Int)) = false := by rw [decide_eq_false_iff_not]; omega
  have g2 : decide (20000 < b.size) = false := by rw [decide_eq_false_iff_not]; omega
  have HF := hid (fun w' => framed_any b w' hb)
  obtain ⟨f, hf⟩ : ∃ f, f = bstr (frameL (byt b)) := ⟨_, rfl⟩
  have hbf : byt f = frameL (byt b) := by rw [hf]; exact byt_frame b
  have hfl : f.size = (putN b.size).length + b.size + 4 := by rw [← byt_len, hbf, frameL_len, byt_len]
  have hpn := putN_ten b.size
  rw [← hf] at HF
  have HD := hid (fun w' (h : Below w.heap.size w w') => dec_any f w' (by omega) (hK.below h) (hT.below h))
  obtain ⟨t, p, c, hd⟩ : ∃ t p c, decL (byt f) = (t, p, c) := ⟨_, _, _, rfl⟩
  rw [hd] at HD
  unfold DecP at HD
  dsimp only at HD
  obtain ⟨pn, hpn'⟩ : ∃ pn, pn = (putN b.size).length := ⟨_, rfl⟩
  rw [← hpn'] at hfl hpn
  have j1 : IntKind.i64.wrap ((f.size : Int) - (b.size : Int)) = (f.size : Int) - (b.size : Int) := IntWalk.i64_in _ (by omega)
  have j2 : IntKind.i64.wrap ((f.size : Int) - (b.size : Int) - 4) = (pn : Int) := by rw [IntWalk.i64_in _ (by omega)]; omega
  have j3 : IntKind.i64.wrap ((pn : Int) + (b.size : Int)) = (pn : Int) + (b.size : Int) := IntWalk.i64_in _ (by omega)
  have HK := hid hK
  have HT := hid hT
  obtain ⟨Q, hQ⟩ : ∃ Q : Ending → World → Prop, Q = fun e' w' => e' = .returned (.bool true) ∧ Below w.heap.size w w' := ⟨_, rfl⟩
  rw [← hQ]
  have HQ := hid hQ
  by_cases hc : c = 0
  · subst hc
    obtain ⟨rfl, hck, hfr⟩ := dec_good hd
    have HCK := hid hck
    have HFR : Hid (bstr (frameL (bodyL t.T t.V t.S t.l)) = f) := hid (by rw [hfr]; exact bstr_byt f)
    obtain ⟨T, V, S, l⟩ := t
    dsimp only [trA] at HCK HFR HD
    clear hK hT hb hQ hf hbf hfl hpn hd hpn' hck hfr
    go_enter Tryz.func5, Tryz.ntmps5
    go_wp2_with fail
    refine HWK.out.mono ?_
    rintro e' w1 ⟨rfl, hb1⟩
    have HB1 := hid hb1
    clear hb1
    go_wp2_with fail
    refine (HF.out w1).mono ?_
    rintro e' w2 ⟨rfl, hb2⟩
    have HDE := hid (HD.out w2 (ext_trans HB1.out hb2))
    have HB2 := hid (ext_trans HB1.out hb2)
    clear hb2
    go_wp2_with fail
    refine HDE.out.mono ?_
    rintro e' w3 ⟨av, cv, rfl, hev, hb3⟩
    obtain ⟨W4, hW4⟩ : ∃ W4, W4 = w3.alloc (.cells #[.int .i64 (T : Int), .int .i64 (V : Int), .int .i64 (S : Int), .slice av l.length cv] 25) := ⟨_, rfl⟩
    have hb4 : Below w3.heap.size w3 W4 := by rw [hW4]; exact ext_alloc (ext_refl _) _
    have hx4 : Blk W4 w3.heap.size #[.int .i64 (T : Int), .int .i64 (V : Int), .int .i64 (S : Int), .slice av l.length cv] 25 := by rw [hW4]; exact Blk.new _ _ _
    have a0 := hx4.cell 0 (v := .int .i64 (T : Int)) rfl
    have a1 := hx4.cell 1 (v := .int .i64 (V : Int)) rfl
    have a2 := hx4.cell 2 (v := .int .i64 (S : Int)) rfl
    have a3 := hx4.cell 3 (v := .slice av l.length cv) rfl
    have hB4 := ext_trans (ext_trans HB2.out hb3) hb4
    have HEN := hid (enc_any T V S av l cv W4 (hev.below hb4) (HK.out.below hB4) (HT.out.below hB4))
    unfold EncP at HEN
    rw [if_pos HCK.out, HCK.out, HFR.out] at HEN
    dsimp only [trA] at HEN
    have HB4 := hid hB4
    have HW4 := hid hW4
    clear hb3 hev hb4 hx4 hB4 hW4
    go_wp2_with (rw [← HW4.out]; go_simp)
    refine HEN.out.mono ?_
    rintro e' w5 ⟨rfl, hb5⟩
    go_wp2_with fail
    rw [HQ.out]
    exact ⟨by rfl, ext_trans HB4.out hb5⟩
  · have hdr := dec_refused hd hc
    have hdb := dec_body hb (hbf ▸ hd) hc
    have hfl2 : (frameL (byt b)).length = f.size := by rw [← hbf, byt_len]
    rw [hfl2] at hdb
    obtain ⟨rfl, -⟩ := hdr
    have k1 : decide ((pn : Int) ≤ (p : Int)) = true := by rw [decide_eq_true_iff]; omega
    have k1' : decide (pn ≤ p) = true := by rw [decide_eq_true_iff]; omega
    have k2 : decide ((p : Int) ≤ (pn : Int) + (b.size : Int)) = true := by rw [decide_eq_true_iff]; omega
    have k3 : ((c : Int) != 0) = true := bne_iff_ne.2 (by omega)
    have k4 : ((c : Int) != 9) = true := bne_iff_ne.2 (by omega)
    have k5 : ((c : Int) != 40) = true := bne_iff_ne.2 (by omega)
    have k6 : (c != 0) = true := bne_iff_ne.2 hc
    dsimp only [trA, Tr.zero] at HD
    clear hK hT hb hQ hf hbf hfl hpn hd hpn' hdb hfl2 hc
    go_enter Tryz.func5, Tryz.ntmps5
    go_wp2_with fail
    refine HWK.out.mono ?_
    rintro e' w1 ⟨rfl, hb1⟩
    have HB1 := hid hb1
    clear hb1
    go_wp2_with fail
    refine (HF.out w1).mono ?_
    rintro e' w2 ⟨rfl, hb2⟩
    have HDE := hid (HD.out w2 (ext_trans HB1.out hb2))
    have HB2 := hid (ext_trans HB1.out hb2)
    clear hb2
    go_wp2_with fail
    refine HDE.out.mono ?_
    rintro e' w3 ⟨av, cv, rfl, hev, hb3⟩
    have HB3 := hid (ext_trans HB2.out hb3)
    have hbz := ext_alloc (ext_refl w3) (.cells #[.int .i64 0, .int .i64 0, .int .i64 0, .slice av 0 cv] 25)
    have HBZ := hid hbz
    clear hb3 hev hbz
    go_wp2_with fail
    rw [HQ.out]
    exact ⟨by rfl, ext_trans HB3.out HBZ.out⟩
theorem traceBody_any (b : ByteArray) (w : World) (hK : KindsAt w) (hT : TabOk w) : Calls Tryz.prog 5 #[.string b] w fun e' w' => e' = .returned (.bool true) ∧ Below w.heap.size w w' := by
  by_cases hb : b.size ≤ 20000
  · exact traceBody_small b w hK hT hb
  · exact traceBody_great b w hK hT (by omega)
end Go.Proofs.YtnblhodhkifeeaaGreatDoor
