/-
  Walk: TraceBack.
-/
import Derived.Test.YtnblhodhkifeeaaGreatDoorTrGZ
namespace Go.Proofs.YtnblhodhkifeeaaGreatDoor
set_option linter.unusedVariables false
set_option linter.unusedSimpArgs false
open Go Go.RowKit
set_option maxRecDepth 100000 in
set_option maxHeartbeats 4000000 in
theorem traceBack_great (T V S : Int) (a : Option Addr) (l : List Ev) (cap : Nat) (s : ByteArray) (w : World) (hK : KindsAt w) (hT : TabOk w) (hb : 2000 < l.length ∨ 20000 < s.size) : Calls Tryz.prog 4 #[trA T V S a l.length cap, .string s] w fun e' w' => e' = .returned (.bool true) ∧ Below w.heap.size w w' := by
  obtain ⟨W1, hW1⟩ : ∃ W1, W1 = w.alloc (.cells #[.int .i64 T, .int .i64 V, .int .i64 S, .slice a l.length cap] 25) := ⟨_, rfl⟩
  have hb1 : Below w.heap.size w W1 := by rw [hW1]; exact ext_alloc (ext_refl _) _
  have hx1 : Blk W1 w.heap.size #[.int .i64 T, .int .i64 V, .int .i64 S, .slice a l.length cap] 25 := by rw [hW1]; exact Blk.new _ _ _
  have HWK := hid (fun w' (h : Below w.heap.size w w') => works_any w' (hK.below h) (hT.below h))
  have HB1 := hid hb1
  have HX1 := hid hx1
  have HW1 := hid hW1
  obtain ⟨Q, hQ⟩ : ∃ Q : Ending → World → Prop, Q = fun e' w' => e' = .returned (.bool true) ∧ Below w.heap.size w w' := ⟨_, rfl⟩
  rw [← hQ]
  have HQ := hid hQ
  dsimp only [trA]
  clear hK hT hb1 hx1 hW1 hQ
  by_cases h1 : 2000 < l.length
  case' pos =>
    have g1 : decide ((2000 : Int) < (l.length : Int)) = true := by rw [decide_eq_true_iff]; omega
    have g2 : decide (2000 < l.length) = true := by rw [decide_eq_true_iff]; omega
  case' neg =>
    have g1 : decide ((2000 : Int) < (l.length : Int)) = false := by rw [decide_eq_false_iff_not]; omega
    have g2 : decide (2000 < l.length) = false := by rw [decide_eq_false_iff_not]; omega
    have g3 : decide ((20000 : Int) < (s.size : Int)) = true := by rw [decide_eq_true_iff]; omega
    have g4 : decide (20000 < s.size) = true := by rw [decide_eq_true_iff]; omega
  all_goals
    clear hb h1
    go_enter Tryz.func4, Tryz.ntmps4
    go_wp2_with fail
    rw [← HW1.out]
    refine (HWK.out W1 HB1.out).mono ?_
    rintro e' w1 ⟨rfl, hb1⟩
    have x3 := (HX1.out.below hb1).cell 3 (v := .slice a l.length cap) rfl
    have HB2 := hid (ext_trans HB1.out hb1)
    clear hb1
    go_wp2_with fail
    refine (HWK.out _ HB2.out).mono ?_
    rintro e' w2 ⟨rfl, hb2⟩
    go_wp2_with fail
    rw [HQ.out]
    exact ⟨rfl, ext_trans HB2.out hb2⟩
set_option maxRecDepth 100000 in
set_option maxHeartbeats 4000000 in
theorem traceBack_small (T V S : Int) (a : Option Addr) (l : List Ev) (cap : Nat) (s : ByteArray) (w : World) (hE : EvsAt w a l) (hK : KindsAt w) (hT : TabOk w) (hl : l.length ≤ 2000) (hs : s.size ≤ 20000) : Calls Tryz.prog 4 #[trA T V S a l.length cap, .string s] w fun e' w' => e' = .returned (.bool true) ∧ Below w.heap.size w w' := by
  obtain ⟨W1, hW1⟩ : ∃ W1, W1 = w.alloc (.cells #[.int .i64 T, .int .i64 V, .int .i64 S, .slice a l.length cap] 25) := ⟨_, rfl⟩
  have hb1 : Below w.heap.size w W1 := by rw [hW1]; exact ext_alloc (ext_refl _) _
  have hx1 : Blk W1 w.heap.size #[.int .i64 T, .int .i64 V, .int .i64 S, .slice a l.length cap] 25 := by rw [hW1]; exact Blk.new _ _ _
  have HWK := hid (works_any W1 (hK.below hb1) (hT.below hb1))
  have HCK := hid (fun w' (h : Below w.heap.size w w') => check_all T V S a l cap w' (hE.below h) (hK.below h) (hT.below h))
  have HEN := hid (fun w' (h : Below w.heap.size w w') => enc_any T V S a l cap w' (hE.below h) (hK.below h) (hT.below h))
  have HBK := hid (fun w' (h : Below w.heap.size w w') hc => back_yes T V S a l cap w' (hE.below h) (hK.below h) (hT.below h) hc)
  have HD := hid (fun w' (h : Below w.heap.size w w') => dec_any s w' (by omega) (hK.below h) (hT.below h))
  have HCK2 := hid (fun (T V S : Int) a l cap w' (h : Below w.heap.size w w') (he : EvsAt w' a l) => check_all T V S a l cap w' he (hK.below h) (hT.below h))
  have HEN2 := hid (fun (T V S : Int) a l cap w' (h : Below w.heap.size w w') (he : EvsAt w' a l) => enc_any T V S a l cap w' he (hK.below h) (hT.below h))
  have g1 : decide ((2000 : Int) < (l.length : Int)) = false := by rw [decide_eq_false_iff_not]; omega
  have g2 : decide (2000 < l.length) = false := by rw [decide_eq_false_iff_not]; omega
  have g3 : decide ((20000 : Int) < (s.size : Int)) = false := by rw [decide_eq_false_iff_not]; omega
  have g4 : decide (20000 < s.size) = false := by rw [decide_eq_false_iff_not]; omega
  obtain ⟨t, p, c, hd⟩ : ∃ t p c, decL (byt s) = (t, p, c) := ⟨_, _, _, rfl⟩
  rw [hd] at HD
  unfold DecP at HD
  dsimp only at HD
  have HDD := hid hd
  unfold EncP at HEN
  have HB1 := hid hb1
  have HX1 := hid hx1
  have HW1 := hid hW1
  dsimp only [trA] at HCK HEN HBK HD HCK2 HEN2 ⊢
  obtain ⟨pl, hpl⟩ : ∃ pl, pl = (checkT T V S l).1 := ⟨_, rfl⟩
  obtain ⟨q, hq⟩ : ∃ q, q = (checkT T V S l).2 := ⟨_, rfl⟩
  rw [← hpl, ← hq] at HCK
  rw [← hq] at HEN HBK
  obtain ⟨Q, hQ⟩ : ∃ Q : Ending → World → Prop, Q = fun e' w' => e' = .returned (.bool true) ∧ Below w.heap.size w w' := ⟨_, rfl⟩
  rw [← hQ]
  have HQ := hid hQ
  clear hE hK hT hl hb1 hx1 hW1 hd hpl hq hQ
  have HSS := hid hs
  clear hs
  go_enter Tryz.func4, Tryz.ntmps4
  go_wp2_with fail
  rw [← HW1.out]
  refine HWK.out.mono ?_
  rintro e' W2 ⟨rfl, hb2⟩
  have hx2 := HX1.out.below hb2
  have x0 := hx2.cell 0 (v := .int .i64 T) rfl
  have x1 := hx2.cell 1 (v := .int .i64 V) rfl
  have x2 := hx2.cell 2 (v := .int .i64 S) rfl
  have x3 := hx2.cell 3 (v := .slice a l.length cap) rfl
  have HX2 := hid hx2
  have HB2 := hid (ext_trans HB1.out hb2)
  clear hb2 hx2 HX1 HB1 HW1 HWK
  go_wp2_with fail
  clear x0 x1 x2 x3
  refine (HCK.out W2 HB2.out).mono ?_
  rintro e' W3 ⟨rfl, hb3⟩
  have hx3 := HX2.out.below hb3
  have x0 := hx3.cell 0 (v := .int .i64 T) rfl
  have x1 := hx3.cell 1 (v := .int .i64 V) rfl
  have x2 := hx3.cell 2 (v := .int .i64 S) rfl
  have x3 := hx3.cell 3 (v := .slice a l.length cap) rfl
  have HX3 := hid hx3
  have HB3 := hid (ext_trans HB2.out hb3)
  clear hb3 hx3 HX2 HB2 HCK
  go_wp2_with fail
  clear x0 x1 x2 x3
  refine (HEN.out W3 HB3.out).mono ?_
  rintro e' W4 ⟨rfl, hb4⟩
  have hx4 := HX3.out.below hb4
  have x0 := hx4.cell 0 (v := .int .i64 T) rfl
  have x1 := hx4.cell 1 (v := .int .i64 V) rfl
  have x2 := hx4.cell 2 (v := .int .i64 S) rfl
  have x3 := hx4.cell 3 (v := .slice a l.length cap) rfl
  have HB4 := hid (ext_trans HB3.out hb4)
  clear hb4 hx4 HX3 HB3 HEN
  by_cases hq0 : q = 0
  case' pos =>
    rw [if_pos hq0]
    have HBB := hid (HBK.out W4 HB4.out hq0)
    subst hq0
    go_wp2_with fail
    refine HBB.out.mono ?_
    rintro e' W5 ⟨rfl, hb5⟩
    have HBd := hid (ext_trans HB4.out hb5)
    clear hb5 HBB x0 x1 x2 x3
    generalize W5 = Wd at *
  case' neg =>
    rw [if_neg hq0]
    have j1 : (q == 0) = false := beq_eq_false_iff_ne.2 hq0
    have j2 : (q != 0) = true := bne_iff_ne.2 hq0
    have HBd := HB4
    clear hq0
    generalize W4 = Wd at *
  all_goals
    go_wp2_with fail
    refine (HD.out Wd HBd.out).mono ?_
    rintro e' W6 ⟨av, cv, rfl, hev, hb6⟩
    by_cases hc : c = 0
    · subst hc
      obtain ⟨rfl, hck, hfr⟩ := dec_good HDD.out
      obtain ⟨Tn, Vn, Sn, ln⟩ := t
      have hck : (checkT Tn Vn Sn ln).2 = 0 := hck
      have hfr : frameL (bodyL Tn Vn Sn ln) = byt s := hfr
      have hev : EvsAt W6 av ln := hev
      obtain ⟨W7, hW7⟩ : ∃ W7, W7 = W6.alloc (.cells #[.int .i64 (Tn : Int), .int .i64 (Vn : Int), .int .i64 (Sn : Int), .slice av ln.length cv] 25) := ⟨_, rfl⟩
      have hb7 : Below W6.heap.size W6 W7 := by rw [hW7]; exact ext_alloc (ext_refl _) _
      have hx7 : Blk W7 W6.heap.size #[.int .i64 (Tn : Int), .int .i64 (Vn : Int), .int .i64 (Sn : Int), .slice av ln.length cv] 25 := by rw [hW7]; exact Blk.new _ _ _
      have hB7 := ext_trans (ext_trans HBd.out hb6) hb7
      have HCC := hid (HCK2.out Tn Vn Sn av ln cv W7 hB7 (hev.below hb7))
      rw [hck] at HCC
      have HEE := hid (fun w' (h : Below W7.heap.size W7 w') => HEN2.out Tn Vn Sn av ln cv w' (ext_trans hB7 h) ((hev.below hb7).below h))
      unfold EncP at HEE
      rw [if_pos hck, hck, show bstr (frameL (bodyL (Tn : Int) Vn Sn ln)) = s by rw [hfr]; exact bstr_byt s] at HEE
      have z0 := hx7.cell 0 (v := .int .i64 (Tn : Int)) rfl
      have z1 := hx7.cell 1 (v := .int .i64 (Vn : Int)) rfl
      have z2 := hx7.cell 2 (v := .int .i64 (Sn : Int)) rfl
      have z3 := hx7.cell 3 (v := .slice av ln.length cv) rfl
      have HX7 := hid hx7
      have HB7 := hid hB7
      have HW7 := hid hW7
      obtain ⟨pc, hpc⟩ : ∃ pc, pc = (checkT (Tn : Int) Vn Sn ln).1 := ⟨_, rfl⟩
      rw [← hpc] at HCC
      clear hev hb6 hck hfr hb7 hx7 hB7 hW7 hpc
      go_wp2_with (rw [← HW7.out]; go_simp)
      clear z0 z1 z2 z3 HW7
      refine HCC.out.mono ?_
      rintro e' W8 ⟨rfl, hb8⟩
      have hx8 := HX7.out.below hb8
      have z0 := hx8.cell 0 (v := .int .i64 (Tn : Int)) rfl
      have z1 := hx8.cell 1 (v := .int .i64 (Vn : Int)) rfl
      have z2 := hx8.cell 2 (v := .int .i64 (Sn : Int)) rfl
      have z3 := hx8.cell 3 (v := .slice av ln.length cv) rfl
      have HEF := hid (HEE.out W8 hb8)
      have HB8 := hid (ext_trans HB7.out hb8)
      clear hb8 hx8 HEE
      go_wp2_with fail
      refine HEF.out.mono ?_
      rintro e' W9 ⟨rfl, hb9⟩
      go_wp2_with fail
      rw [HQ.out]
      exact ⟨by rfl, ext_trans HB8.out hb9⟩
    · obtain ⟨rfl, hp⟩ := dec_refused HDD.out hc
      have hev : EvsAt W6 av [] := hev
      (try simp only [Tr.zero, List.length_nil])
      have k1 : ((c : Int) != 0) = true := bne_iff_ne.2 (by omega)
      have k2 : (c != 0) = true := bne_iff_ne.2 hc
      have k3 : decide ((p : Int) ≤ (s.size : Int)) = true := by rw [decide_eq_true_iff]; omega
      have k4 : decide (p ≤ s.size) = true := by rw [decide_eq_true_iff]; exact hp
      have k5 : decide ((0 : Int) ≤ (p : Int)) = true := by rw [decide_eq_true_iff]; omega
      obtain ⟨W7, hW7⟩ : ∃ W7, W7 = W6.alloc (.cells #[.int .i64 0, .int .i64 0, .int .i64 0, .slice av 0 cv] 25) := ⟨_, rfl⟩
      have hb7 : Below W6.heap.size W6 W7 := by rw [hW7]; exact ext_alloc (ext_refl _) _
      have hx7 : Blk W7 W6.heap.size #[.int .i64 0, .int .i64 0, .int .i64 0, .slice av 0 cv] 25 := by rw [hW7]; exact Blk.new _ _ _
      have hB7 := ext_trans (ext_trans HBd.out hb6) hb7
      have HSM := hid (refSame_any 0 0 0 0 0 0 av none [] [] cv 0 W7 (hev.below hb7) (EvsAt.nil _) (by simp) (by simp))
      dsimp only [trA, List.length_nil] at HSM
      have z0 := hx7.cell 0 (v := .int .i64 0) rfl
      have z1 := hx7.cell 1 (v := .int .i64 0) rfl
      have z2 := hx7.cell 2 (v := .int .i64 0) rfl
      have z3 := hx7.cell 3 (v := .slice av 0 cv) rfl
      have HB7 := hid hB7
      have HW7 := hid hW7
      clear hev hb6 hb7 hx7 hB7 hW7 hp hc
      go_wp2_with (rw [← HW7.out]; go_simp)
      refine HSM.out.mono ?_
      rintro e' W8 ⟨⟨x, rfl, hx⟩, hb8⟩
      have hxt : x = true := hx.2 ⟨rfl, rfl, rfl, rfl⟩
      subst hxt
      clear hx
      go_wp2_with fail
      rw [HQ.out]
      exact ⟨by rfl, ext_trans HB7.out hb8⟩
theorem traceBack_any (T V S : Int) (a : Option Addr) (l : List Ev) (cap : Nat) (s : ByteArray) (w : World) (hE : EvsAt w a l) (hK : KindsAt w) (hT : TabOk w) : Calls Tryz.prog 4 #[trA T V S a l.length cap, .string s] w fun e' w' => e' = .returned (.bool true) ∧ Below w.heap.size w w' := by
  by_cases h : l.length ≤ 2000 ∧ s.size ≤ 20000
  · exact traceBack_small T V S a l cap s w hE hK hT h.1 h.2
  · exact traceBack_great T V S a l cap s w hK hT (by omega)
end Go.Proofs.YtnblhodhkifeeaaGreatDoor
