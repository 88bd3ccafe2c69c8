/-
  Walk: DeltaReads.
-/
import Derived.Test.YtokkafiphchejaaDoorDeG4
import Derived.Test.YtokkafiphchejaaDoorDrR
import Derived.Test.YtokkafiphchejaaDoorDeG2
import Derived.Test.YtokkafiphchejaaDoorShQ
namespace Go.Proofs.YtokkafiphchejaaDoor
set_option linter.unusedVariables false
set_option linter.unusedSimpArgs false
set_option linter.unusedVariables false
open Go Go.RowKit
set_option maxRecDepth 100000 in
set_option maxHeartbeats 4000000 in
theorem reads_great (T V S : Int) (s : ByteArray) (W : World) (hKd : KindsAt W) (hn : 5000 < s.size) : Calls Tryd.prog 5 #[.int .i64 T, .int .i64 V, .int .i64 S, .string s] W fun e' W' => e' = .returned (.bool true) ∧ Below W.heap.size W W' := by
  have HAW := hid (awake_any W hKd)
  have g1 : decide ((5000 : Int) < (s.size : Int)) = true := by rw [decide_eq_true_iff]; omega
  have g2 : decide (5000 < s.size) = true := by rw [decide_eq_true_iff]; omega
  clear hn hKd
  obtain ⟨Q, hQ⟩ : ∃ Q : Ending → World → Prop, Q = fun e' W' => e' = .returned (.bool true) ∧ Below W.heap.size W W' := ⟨_, rfl⟩
  rw [← hQ]
  have HQ := hid hQ
  clear hQ
  go_enter Tryd.func5, Tryd.ntmps5
  go_wp2_with fail
  refine HAW.out.mono ?_
  rintro e' W1 ⟨rfl, hb1⟩
  go_wp2_with fail
  rw [HQ.out]
  exact ⟨rfl, hb1⟩
set_option maxRecDepth 100000 in
set_option maxHeartbeats 4000000 in
theorem reads_bad (T V S : Int) (s : ByteArray) (W : World) (hKd : KindsAt W) (hn : s.size ≤ 5000) (hz : sizesB T V S = false) : Calls Tryd.prog 5 #[.int .i64 T, .int .i64 V, .int .i64 S, .string s] W fun e' W' => e' = .returned (.bool true) ∧ Below W.heap.size W W' := by
  have g1 : decide ((5000 : Int) < (s.size : Int)) = false := by rw [decide_eq_false_iff_not]; omega
  have g2 : decide (5000 < s.size) = false := by rw [decide_eq_false_iff_not]; omega
  have HK := hid hKd
  have HZ := hid hz
  have HNW := hid (new_bad' T V S W hKd hz)
  clear hn hKd hz
  obtain ⟨Q, hQ⟩ : ∃ Q : Ending → World → Prop, Q = fun e' W' => e' = .returned (.bool true) ∧ Below W.heap.size W W' := ⟨_, rfl⟩
  rw [← hQ]
  have HQ := hid hQ
  clear hQ
  go_enter Tryd.func5, Tryd.ntmps5
  go_wp2_with fail
  refine HNW.out.mono ?_
  rintro e' W1 ⟨rfl, hb1⟩
  have HB1 := hid hb1
  clear hb1
  go_wp2_with fail
  refine (newR_bad T V S W1 HZ.out).mono ?_
  rintro e' W2 ⟨rfl, rfl⟩
  have HAW := hid (awake_any W1 (HK.out.below HB1.out))
  go_wp2_with fail
  refine HAW.out.mono ?_
  rintro e' W3 ⟨rfl, hb3⟩
  go_wp2_with fail
  rw [HQ.out]
  exact ⟨rfl, ext_trans HB1.out hb3⟩
/-- What the loop keeps. -/
structure RdI (T V S : Int) (s : ByteArray) (W : World) (C D rb qb : Nat) (wr : World) (c : Cdr) (at_ : Nat) : Prop where
  co : Blk wr C (cdrA T V S c) 74
  dc : Blk wr D (cdrA T V S c) 90
  rd : RdrAt wr rb s at_ 0
  qd : RRd wr qb s at_ 0
  ok : OkC T c
  le : at_ ≤ s.size
  be : Below W.heap.size W wr
theorem readC_any {T V S : Int} {c : Cdr} {s : List Nat} {at_ : Nat} (hsz : 1 ≤ T ∧ T ≤ 6 ∧ 1 ≤ V ∧ V ≤ 32 ∧ 1 ≤ S ∧ S ≤ V) (hc : OkC T c) (hs : ∀ b ∈ s, b < 256) (ha : at_ ≤ s.length) :
    ∃ (e : Ev) (er : Nat) (r' : Rdr) (c' : Cdr), readC T V S c ⟨s, at_, 0⟩ = (e, er, r', c') ∧ er = r'.err ∧ (er = 0 → OkC T c' ∧ r'.at_ ≤ s.length) := by
  rcases readC_two (T := T) (V := V) (S := S) hsz hc hs ha with ⟨r', he, -, hz⟩ | ⟨e, n, -, -, -, hok, hle, -, hz⟩
  · exact ⟨_, _, _, _, hz, rfl, fun h => absurd h he⟩
  · exact ⟨_, _, _, _, hz, rfl, fun _ => ⟨hok, hle⟩⟩
set_option maxRecDepth 100000 in
set_option maxHeartbeats 4000000 in
theorem reads_ok (T V S : Int) (s : ByteArray) (W : World) (hKd : KindsAt W) (hn : s.size ≤ 5000) (hz : sizesB T V S = true) : Calls Tryd.prog 5 #[.int .i64 T, .int .i64 V, .int .i64 S, .string s] W fun e' W' => e' = .returned (.bool true) ∧ Below W.heap.size W W' := by
  have g1 : decide ((5000 : Int) < (s.size : Int)) = false := by rw [decide_eq_false_iff_not]; omega
  have g2 : decide (5000 < s.size) = false := by rw [decide_eq_false_iff_not]; omega
  have HN := hid hn
  have HK := hid hKd
  have HZ := hid hz
  have HNW := hid (new_any T V S W hKd hz)
  have HSZ : Hid (1 ≤ T ∧ T ≤ 6 ∧ 1 ≤ V ∧ V ≤ 32 ∧ 1 ≤ S ∧ S ≤ V) := hid (by unfold sizesB at hz; exact of_decide_eq_true hz)
  clear hn hKd hz
  obtain ⟨Q, hQ⟩ : ∃ Q : Ending → World → Prop, Q = fun e' W' => e' = .returned (.bool true) ∧ Below W.heap.size W W' := ⟨_, rfl⟩
  rw [← hQ]
  have HQ := hid hQ
  clear hQ
  go_enter Tryd.func5, Tryd.ntmps5
  go_wp2_with fail
  refine HNW.out.mono ?_
  rintro e' W1 ⟨C, rfl, hC0, hC, hb1⟩
  have HC := hid hC
  have HC0 := hid hC0
  have HB1 := hid hb1
  clear hC hC0 hb1 HNW
  go_wp2_with fail
  refine (newR_any T V S W1 HZ.out).mono ?_
  rintro e' W2 ⟨rfl, hD, hb2⟩
  have HD := hid hD
  have HC2 := hid (HC.out.below hb2)
  have HB2 := hid (ext_trans HB1.out hb2)
  clear hD hb2
  go_wp2_with fail
  refine (newReader_any s W2 (by have := HN.out; omega)).mono ?_
  rintro e' W3 ⟨rfl, hr3, hb3⟩
  have HR3 := hid hr3
  have HD3 := hid (HD.out.below hb3)
  have HC3 := hid (HC2.out.below hb3)
  have HB3 := hid (ext_trans HB2.out hb3)
  clear hr3 hb3
  go_wp2_with fail
  refine (qnew_any s W3 (by have := HN.out; omega)).mono ?_
  rintro e' W4 ⟨rfl, hq4, hb4⟩
  have hl1 := HC.out.lt
  have hl2 : W1.heap.size < W2.heap.size := HD.out.lt
  have hl3 : W2.heap.size < W3.heap.size := Blk.lt HR3.out
  have hSZ := HSZ.out
  have I0 : RdI T V S s W C W1.heap.size W2.heap.size W3.heap.size W4 newC 0 := ⟨HC3.out.below hb4, HD3.out.below hb4, Blk.below hb4 HR3.out, hq4, okC_new (by omega), Nat.zero_le _, ext_trans HB3.out hb4⟩
  have hNE : W.heap.size ≤ C ∧ C < W1.heap.size ∧ W1.heap.size < W2.heap.size ∧ W2.heap.size < W3.heap.size := ⟨HC0.out, hl1, hl2, hl3⟩
  generalize W1.heap.size = D at I0 hNE ⊢
  generalize W2.heap.size = rb at I0 hNE ⊢
  generalize W3.heap.size = qb at I0 hNE ⊢
  have HI := hid I0
  have HNE := hid hNE
  clear I0 hNE hl1 hl2 hl3 hSZ hb4 hq4 HB1 HB2 HB3 HC HC2 HC3 HD HD3 HR3 HC0
  go_wp2_with fail
  go_loopw [17] (fun i wr => ∃ (k : Nat) (c : Cdr) (at_ : Nat), k ≤ 5000 ∧ i = .int .i64 (k : Int) ∧ Hid (RdI T V S s W C D rb qb wr c at_)) (fun i _ => 5000 - (intOf i).toNat)
  case atStart => exact ⟨0, _, _, Nat.zero_le _, rfl, HI⟩
  case round =>
    obtain ⟨k, c, at_, hkl, rfl, HI⟩ := hrel
    by_cases hlt : k < 5000
    · have j1 : decide ((k : Int) < 5000) = true := by rw [decide_eq_true_iff]; omega
      have j2 : decide (k < 5000) = true := by rw [decide_eq_true_iff]; omega
      have j3 : IntKind.i64.wrap ((k : Int) + 1) = (k : Int) + 1 := IntWalk.i64_in _ (by omega)
      have hsz := HSZ.out
      have hne := HNE.out
      have HR := hid (dread_any T V S c s at_ C rb wr HI.out.co ⟨hsz.1, hsz.2.1⟩ ⟨hsz.2.2.1, hsz.2.2.2.1⟩ ⟨hsz.2.2.2.2.1, hsz.2.2.2.2.2⟩ HI.out.ok HI.out.rd (by have := HN.out; omega) HI.out.le (by omega))
      have HR2 := hid (fun w1 (h1 : Blk w1 D (cdrA T V S c) 90) (h2 : RRd w1 qb s at_ 0) => rread_any T V S c s at_ D qb w1 h1 ⟨hsz.1, hsz.2.1⟩ ⟨hsz.2.2.1, hsz.2.2.2.1⟩ ⟨hsz.2.2.2.2.1, hsz.2.2.2.2.2⟩ HI.out.ok h2 (by have := HN.out; omega) HI.out.le (by omega))
      have hlb : (byt s).length = s.size := byt_len s
      obtain ⟨ev, er, r', c', hz, her, hokz⟩ := readC_any (T := T) (V := V) (S := S) (c := c) (s := byt s) (at_ := at_) HSZ.out HI.out.ok (byt_lt s) (by rw [hlb]; exact HI.out.le)
      rw [hlb] at hokz
      rw [hz] at HR HR2
      unfold ReadEP at HR
      unfold RReadP at HR2
      subst her
      have HOKZ := hid hokz
      have HLT := hid hlt
      have hq := fun w' => run_eql_ev ev ev w'
      unfold Op.equal Op.maxDepth at hq
      have hee : evEqB ev ev = true := by unfold evEqB; simp
      rw [hee] at hq
      obtain ⟨kind, th, tx, ea, v, x, why⟩ := ev
      dsimp only [evA] at HR HR2 hq
      clear hz hlb hlt hkl hsz hne hokz hee
      go_wp2_with fail
      refine HR.out.mono ?_
      rintro e' w1 ⟨rfl, hC1, hR1, hT1⟩
      have hne := HNE.out
      have hD1 := hT1.blk (k := D) (by simp only [List.mem_cons, List.not_mem_nil, or_false]; omega) HI.out.dc
      have hq1 : RRd w1 qb s at_ 0 := Turn.blk hT1 (by simp only [List.mem_cons, List.not_mem_nil, or_false]; omega) HI.out.qd
      have hbe1 : Below W.heap.size W w1 := HI.out.be.trans (hT1.below (fun x hx => by
          rcases List.mem_cons.1 hx with e | hx
          · omega
          rcases List.mem_cons.1 hx with e | hx
          · omega
          cases hx) HI.out.be.size)
      obtain ⟨Wx, hWx⟩ : ∃ Wx, Wx = w1.alloc (.cells #[.int .u8 kind, .int .i64 th, .int .i64 tx, .int .i64 ea, .int .i64 v, .int .i64 x, .int .u8 why] 33) := ⟨_, rfl⟩
      have hbx : Below w1.heap.size w1 Wx := by rw [hWx]; exact ext_alloc (ext_refl _) _
      have hex : Blk Wx w1.heap.size #[.int .u8 kind, .int .i64 th, .int .i64 tx, .int .i64 ea, .int .i64 v, .int .i64 x, .int .u8 why] 33 := by rw [hWx]; exact Blk.new _ _ _
      have HCX := hid (hC1.below hbx)
      have HRX := hid (show RdrAt Wx rb s r'.at_ r'.err from Blk.below hbx hR1)
      have HRX2 := hid (HR2.out Wx (hD1.below hbx) (Blk.below hbx hq1))
      have HEX := hid hex
      have HBX := hid (ext_trans hbe1 hbx)
      have HXL : Hid (D < w1.heap.size ∧ qb < w1.heap.size) := hid ⟨hD1.lt, Blk.lt hq1⟩
      have HWX := hid hWx
      clear hC1 hR1 hT1 hD1 hq1 hbe1 hWx hbx hex HR HR2 hne
      go_wp2_with (rw [← HWX.out]; go_simp)
      refine HRX2.out.mono ?_
      rintro e' w2 ⟨rfl, hD2, hQ2, hT2⟩
      have hne := HNE.out
      have hxl := HXL.out
      generalize w1.heap.size = X at *
      have hC2 := hT2.blk (k := C) (by simp only [List.mem_cons, List.not_mem_nil, or_false]; omega) HCX.out
      have hR2 : RdrAt w2 rb s r'.at_ r'.err := Turn.blk hT2 (by simp only [List.mem_cons, List.not_mem_nil, or_false]; omega) HRX.out
      have hE2 := hT2.blk (k := X) (by simp only [List.mem_cons, List.not_mem_nil, or_false]; omega) HEX.out
      have hbe2 : Below W.heap.size W w2 := HBX.out.trans (hT2.below (fun x hx => by
          rcases List.mem_cons.1 hx with e | hx
          · omega
          rcases List.mem_cons.1 hx with e | hx
          · omega
          cases hx) HBX.out.size)
      obtain ⟨Wy, hWy⟩ : ∃ Wy, Wy = w2.alloc (.cells #[.int .u8 kind, .int .i64 th, .int .i64 tx, .int .i64 ea, .int .i64 v, .int .i64 x, .int .u8 why] 33) := ⟨_, rfl⟩
      have hby : Below w2.heap.size w2 Wy := by rw [hWy]; exact ext_alloc (ext_refl _) _
      have hey : Blk Wy w2.heap.size #[.int .u8 kind, .int .i64 th, .int .i64 tx, .int .i64 ea, .int .i64 v, .int .i64 x, .int .u8 why] 33 := by rw [hWy]; exact Blk.new _ _ _
      have HWR := hid (rWrong_any rb s r'.at_ r'.err Wy (show RdrAt Wy rb s r'.at_ r'.err from Blk.below hby hR2))
      have HC2 := hid (hC2.below hby)
      have HD2 := hid (hD2.below hby)
      have HR2 := hid (show RdrAt Wy rb s r'.at_ r'.err from Blk.below hby hR2)
      have HQ2 := hid (show RRd Wy qb s r'.at_ r'.err from Blk.below hby hQ2)
      have HE2 := hid (hE2.below hby)
      have HEY := hid hey
      have HBY := hid (ext_trans hbe2 hby)
      have HWY := hid hWy
      clear hD2 hQ2 hT2 hC2 hR2 hE2 hbe2 hWy hby hey HRX2 HCX HRX HEX HBX HWX hne hxl HXL
      obtain ⟨pl, hpl⟩ : ∃ pl : Int, pl = (if r'.err = 0 then 0 else (r'.at_ : Int)) := ⟨_, rfl⟩
      rw [← hpl] at HWR
      have HPL := hid hpl
      clear hpl
      go_wp2_with (rw [← HWY.out]; go_simp)
      refine HWR.out.mono ?_
      rintro e' w3 ⟨rfl, hb3⟩
      have HWR2 := hid (qwrong_any qb s r'.at_ r'.err w3 (Blk.below hb3 HQ2.out))
      rw [← HPL.out] at HWR2
      have HC3 := hid (HC2.out.below hb3)
      have HD3 := hid (HD2.out.below hb3)
      have HR3 := hid (show RdrAt w3 rb s r'.at_ r'.err from Blk.below hb3 HR2.out)
      have HQ3 := hid (show RRd w3 qb s r'.at_ r'.err from Blk.below hb3 HQ2.out)
      have HE3 := hid (HE2.out.below hb3)
      have HEY3 := hid (HEY.out.below hb3)
      have HB3 := hid (ext_trans HBY.out hb3)
      clear hb3 HC2 HD2 HR2 HQ2 HE2 HEY HBY HWY HWR
      go_wp2_with fail
      refine HWR2.out.mono ?_
      rintro e' w4 ⟨rfl, hb4⟩
      generalize w2.heap.size = Y at *
      have hE4 := HE3.out.below hb4
      have hEY4 := HEY3.out.below hb4
      have hQ4 : RRd w4 qb s r'.at_ r'.err := Blk.below hb4 HQ3.out
      have hR4 : RdrAt w4 rb s r'.at_ r'.err := Blk.below hb4 HR3.out
      have HAT := hid (fun n => (rAt_any rb s r'.at_ r'.err (w4.drewN n) (Blk.below (ext_drewN (ext_refl w4) n) hR4)).mono fun e' w'' hh => And.intro hh.1 hh.2.symm)
      have e0 := hE4.cell 0 (v := .int .u8 kind) rfl
      have e1 := hE4.cell 1 (v := .int .i64 th) rfl
      have e2 := hE4.cell 2 (v := .int .i64 tx) rfl
      have e3 := hE4.cell 3 (v := .int .i64 ea) rfl
      have e4 := hE4.cell 4 (v := .int .i64 v) rfl
      have e5 := hE4.cell 5 (v := .int .i64 x) rfl
      have e6 := hE4.cell 6 (v := .int .u8 why) rfl
      have y0 := hEY4.cell 0 (v := .int .u8 kind) rfl
      have y1 := hEY4.cell 1 (v := .int .i64 th) rfl
      have y2 := hEY4.cell 2 (v := .int .i64 tx) rfl
      have y3 := hEY4.cell 3 (v := .int .i64 ea) rfl
      have y4 := hEY4.cell 4 (v := .int .i64 v) rfl
      have y5 := hEY4.cell 5 (v := .int .i64 x) rfl
      have y6 := hEY4.cell 6 (v := .int .u8 why) rfl
      have p1 : w4.cell? ⟨qb, 1, none⟩ = some (.int .i64 (r'.at_ : Int)) := Blk.cell hQ4 1 rfl
      have b1 : ((r'.at_ : Int) != (r'.at_ : Int)) = false := by simp
      have b2 : ((r'.err : Int) != (r'.err : Int)) = false := by simp
      have b3 : (pl != pl) = false := by simp
      have HC4 := hid (HC3.out.below hb4)
      have HD4 := hid (HD3.out.below hb4)
      have HR4 := hid hR4
      have HQ4 := hid hQ4
      have HB4 := hid (ext_trans HB3.out hb4)
      clear hb4 hE4 hEY4 hQ4 hR4 HC3 HD3 HR3 HQ3 HE3 HEY3 HB3 HWR2
      go_wp2_with fail
      go_quiet (exact Calls.quiet_of_same (HAT.out _))
      have HBN := hid (ext_drewN (ext_refl w4) nq)
      clear e0 e1 e2 e3 e4 e5 e6 y0 y1 y2 y3 y4 y5 y6 p1 b1 b2 b3 hq HAT
      by_cases he : r'.err = 0
      · have g3 : ((r'.err : Int) != 0) = false := by rw [he]; rfl
        have HE0 := hid he
        clear he
        go_wp2_with fail
        go_roundw
        case rel =>
          refine ⟨k + 1, c', r'.at_, by have := HLT.out; omega, by simp, hid ⟨HC4.out.below HBN.out, HD4.out.below HBN.out, ?_, ?_, (HOKZ.out HE0.out).1, (HOKZ.out HE0.out).2, ext_trans HB4.out HBN.out⟩⟩
          · have := HR4.out; rw [HE0.out] at this; exact Blk.below HBN.out this
          · have := HQ4.out; rw [HE0.out] at this; exact Blk.below HBN.out this
        case measure => have := HLT.out; simp [intOf]; omega
      · have g3 : ((r'.err : Int) != 0) = true := by rw [bne_iff_ne]; omega
        have HAW := hid (awake_any _ (HK.out.below (ext_trans HB4.out HBN.out)))
        clear he
        go_wp2_with fail
        refine HAW.out.mono ?_
        rintro e' w6 ⟨rfl, hb6⟩
        go_wp2_with fail
        rw [HQ.out]
        exact ⟨rfl, ext_trans (ext_trans HB4.out HBN.out) hb6⟩
    · obtain rfl : k = 5000 := by omega
      have j1 : decide (((5000 : Nat) : Int) < 5000) = false := by decide
      have HAW := hid (awake_any wr (HK.out.below HI.out.be))
      clear hkl hlt
      go_wp2_with fail
      refine HAW.out.mono ?_
      rintro e' w4 ⟨rfl, hb4⟩
      go_wp2_with fail
      rw [HQ.out]
      exact ⟨rfl, ext_trans HI.out.be hb4⟩
theorem deltaReads_any (T V S : Int) (s : ByteArray) (W : World) (hKd : KindsAt W) : Calls Tryd.prog 5 #[.int .i64 T, .int .i64 V, .int .i64 S, .string s] W fun e' W' => e' = .returned (.bool true) ∧ Below W.heap.size W W' := by
  by_cases hl : s.size ≤ 5000
  · cases hz : sizesB T V S with
    | true => exact reads_ok T V S s W hKd hl hz
    | false => exact reads_bad T V S s W hKd hl hz
  · exact reads_great T V S s W hKd (by omega)
end Go.Proofs.YtokkafiphchejaaDoor
