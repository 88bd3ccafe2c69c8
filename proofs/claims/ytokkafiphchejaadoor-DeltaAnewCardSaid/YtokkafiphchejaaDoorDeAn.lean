/-
  Walk: DeltaAnew.
-/
import Derived.Test.YtokkafiphchejaaDoorDeG4
namespace Go.Proofs.YtokkafiphchejaaDoor
set_option linter.unusedVariables false
set_option linter.unusedSimpArgs false
set_option linter.unusedVariables false
open Go Go.RowKit
set_option maxRecDepth 100000 in
set_option maxHeartbeats 4000000 in
theorem anew_great (T V S : Int) (s : ByteArray) (W : World) (hKd : KindsAt W) (hn : 5000 < s.size) : Calls Tryd.prog 6 #[.int .i64 T, .int .i64 V, .int .i64 S, .string s] W fun e' W' => e' = .returned (.bool true) ∧ Below W.heap.size W W' := by
  have HAW := hid (awake_any W hKd)
  have g1 : decide ((5000 : Int) < (s.size : Int)) = true := by rw [decide_eq_true_iff]; omega
  have g2 : decide (5000 < s.size) = true := by rw [decide_eq_true_iff]; omega
  clear hn hKd
  obtain ⟨Q, hQ⟩ : ∃ Q : Ending → World → Prop, Q = fun e' W' => e' = .returned (.bool true) ∧ Below W.heap.size W W' := ⟨_, rfl⟩
  rw [← hQ]
  have HQ := hid hQ
  clear hQ
  go_enter Tryd.func6, Tryd.ntmps6
  go_wp2_with fail
  refine HAW.out.mono ?_
  rintro e' W1 ⟨rfl, hb1⟩
  go_wp2_with fail
  rw [HQ.out]
  exact ⟨rfl, hb1⟩
set_option maxRecDepth 100000 in
set_option maxHeartbeats 2000000 in
theorem anew_bad (T V S : Int) (s : ByteArray) (W : World) (hKd : KindsAt W) (hn : s.size ≤ 5000) (hz : sizesB T V S = false) : Calls Tryd.prog 6 #[.int .i64 T, .int .i64 V, .int .i64 S, .string s] W fun e' W' => e' = .returned (.bool true) ∧ Below W.heap.size W W' := by
  have HAW := hid (awake_any W hKd)
  have g1 : decide ((5000 : Int) < (s.size : Int)) = false := by rw [decide_eq_false_iff_not]; omega
  have g2 : decide (5000 < s.size) = false := by rw [decide_eq_false_iff_not]; omega
  have HN := hid hn
  have HK := hid hKd
  have HZ := hid hz
  clear hn hKd hz
  obtain ⟨Q, hQ⟩ : ∃ Q : Ending → World → Prop, Q = fun e' W' => e' = .returned (.bool true) ∧ Below W.heap.size W W' := ⟨_, rfl⟩
  rw [← hQ]
  have HQ := hid hQ
  clear hQ
  go_enter Tryd.func6, Tryd.ntmps6
  go_wp2_with fail
  refine HAW.out.mono ?_
  rintro e' W0 ⟨rfl, hb0⟩
  have HB0 := hid hb0
  clear hb0 HAW
  go_wp2_with fail
  refine (new_bad' T V S W0 (HK.out.below HB0.out) HZ.out).mono ?_
  rintro e' W1 ⟨rfl, hb1⟩
  have HB1 := hid (ext_trans HB0.out hb1)
  clear hb1
  go_wp2_with fail
  refine (new_bad' T V S W1 (HK.out.below HB1.out) HZ.out).mono ?_
  rintro e' W2 ⟨rfl, hb1⟩
  have HB2 := hid (ext_trans HB1.out hb1)
  clear hb1
  go_wp2_with fail
  refine (newWriter_any 16777216 W2 ⟨by omega, by omega⟩).mono ?_
  rintro e' W3 ⟨rfl, hw3, hb1⟩
  have HB3 := hid (ext_trans HB2.out hb1)
  clear hb1 hw3
  go_wp2_with fail
  refine (newReader_any s W3 (by have := HN.out; omega)).mono ?_
  rintro e' W4 ⟨rfl, hw4, hb1⟩
  have HB4 := hid (ext_trans HB3.out hb1)
  clear hb1 hw4
  go_wp2_with fail
  rw [HQ.out]
  exact ⟨rfl, HB4.out⟩
/-- What the loop keeps. -/
structure AnI (T V S : Int) (s : ByteArray) (W : World) (C D b rb : Nat) (wr : World) (c : Cdr) (at_ : Nat) (u : Value) : Prop where
  co : Blk wr C (cdrA T V S c) 74
  wd : Wd T V S c D b 16777216 ((byt s).take at_) (b + 1) u wr
  rd : RdrAt wr rb s at_ 0
  le : at_ ≤ s.size
  be : Below W.heap.size W wr
set_option maxRecDepth 100000 in
set_option maxHeartbeats 4000000 in
theorem anew_ok (T V S : Int) (s : ByteArray) (W : World) (hKd : KindsAt W) (hn : s.size ≤ 5000) (hz : sizesB T V S = true) : Calls Tryd.prog 6 #[.int .i64 T, .int .i64 V, .int .i64 S, .string s] W fun e' W' => e' = .returned (.bool true) ∧ Below W.heap.size W W' := by
  have HAW := hid (awake_any W hKd)
  have g1 : decide ((5000 : Int) < (s.size : Int)) = false := by rw [decide_eq_false_iff_not]; omega
  have g2 : decide (5000 < s.size) = false := by rw [decide_eq_false_iff_not]; omega
  have HN := hid hn
  have HK := hid hKd
  have HZ := hid hz
  have HSZ : Hid (1 ≤ T ∧ T ≤ 6 ∧ 1 ≤ V ∧ V ≤ 32 ∧ 1 ≤ S ∧ S ≤ V) := hid (by unfold sizesB at hz; exact of_decide_eq_true hz)
  clear hn hKd hz
  obtain ⟨Q, hQ⟩ : ∃ Q : Ending → World → Prop, Q = fun e' W' => e' = .returned (.bool true) ∧ Below W.heap.size W W' := ⟨_, rfl⟩
  rw [← hQ]
  have HQ := hid hQ
  clear hQ
  go_enter Tryd.func6, Tryd.ntmps6
  go_wp2_with fail
  refine HAW.out.mono ?_
  rintro e' W0 ⟨rfl, hb0⟩
  have HB0 := hid hb0
  clear hb0 HAW
  go_wp2_with fail
  refine (new_any T V S W0 (HK.out.below HB0.out) HZ.out).mono ?_
  rintro e' W1 ⟨C, rfl, hC0, hC, hb1⟩
  have HC := hid hC
  have HC0 := hid (Nat.le_trans HB0.out.size hC0)
  have HB1 := hid (ext_trans HB0.out hb1)
  clear hC hC0 hb1
  go_wp2_with fail
  refine (new_any T V S W1 (HK.out.below HB1.out) HZ.out).mono ?_
  rintro e' W2 ⟨D, rfl, hD0, hD, hb1⟩
  have HD := hid hD
  have HD0 := hid hD0
  have HC2 := hid (HC.out.below hb1)
  have HB2 := hid (ext_trans HB1.out hb1)
  clear hD hD0 hb1
  go_wp2_with fail
  refine (newWriter_any 16777216 W2 ⟨by omega, by omega⟩).mono ?_
  rintro e' W3 ⟨rfl, hw3, hb1⟩
  have HB3 := hid (ext_trans HB2.out hb1)
  have HC3 := hid (HC2.out.below hb1)
  have HD3 := hid (HD.out.below hb1)
  have HW3 := hid hw3
  clear hb1 hw3
  go_wp2_with fail
  refine (newReader_any s W3 (by have := HN.out; omega)).mono ?_
  rintro e' W4 ⟨rfl, hr4, hb1⟩
  have hSZ := HSZ.out
  have hl1 := HC.out.lt
  have hl2 := HD.out.lt
  have hl3 := HD0.out
  have hl5 := HW3.out.lt
  have I0 : AnI T V S s W C D W2.heap.size W3.heap.size W4 newC 0 (.slice none 0 0) := ⟨HC3.out.below hb1, ⟨HD3.out.below hb1, (WrtO.new HW3.out).below hb1, okC_new (by omega), ⟨⟨by omega, by omega⟩, ⟨by omega, by omega⟩, ⟨by omega, by omega⟩⟩, by omega, by omega, Nat.le_trans hl5 hb1.size, ⟨by omega, by omega⟩⟩, hr4, Nat.zero_le _, ext_trans HB3.out hb1⟩
  have hNE : W.heap.size ≤ C ∧ C < D ∧ D < W2.heap.size ∧ W2.heap.size < W3.heap.size := ⟨HC0.out, by omega, by omega, by omega⟩
  generalize W2.heap.size = b at I0 hNE ⊢
  generalize W3.heap.size = rb at I0 hNE ⊢
  have HI := hid I0
  have HNE := hid hNE
  clear I0 hNE hl1 hl2 hl3 hl5 hSZ hb1 hr4 HB0 HB1 HB2 HB3 HC HC2 HC3 HD HD0 HD3 HW3 HC0
  go_wp2_with fail
  go_loopw [17] (fun i wr => ∃ (k : Nat) (c : Cdr) (at_ : Nat) (u : Value), k ≤ 5000 ∧ i = .int .i64 (k : Int) ∧ Hid (AnI T V S s W C D b rb wr c at_ u) ∧ Hid (∀ g, u.ownBlock = some g → g ≠ rb)) (fun i _ => 5000 - (intOf i).toNat)
  case atStart => exact ⟨0, _, _, _, Nat.zero_le _, rfl, HI, hid (by intro g hg; simp [Value.ownBlock] at hg)⟩
  case round =>
    obtain ⟨k, c, at_, u, hkl, rfl, HI, HU⟩ := hrel
    have HKL := hid hkl
    by_cases hlt : k < 5000
    · have j1 : decide ((k : Int) < 5000) = true := by rw [decide_eq_true_iff]; omega
      have j2 : decide (k < 5000) = true := by rw [decide_eq_true_iff]; omega
      have j3 : IntKind.i64.wrap ((k : Int) + 1) = (k : Int) + 1 := IntWalk.i64_in _ (by omega)
      obtain ⟨n1, n2, n3, n4⟩ := HNE.out
      have hown : ∀ g, u.ownBlock = some g → b < g := fun g hg => by have := (HI.out.wd.wr.own.lt g hg).1; omega
      have HOWN := hid hown
      have hsz := HSZ.out
      have HR := hid (dread_any T V S c s at_ C rb wr HI.out.co ⟨hsz.1, hsz.2.1⟩ ⟨hsz.2.2.1, hsz.2.2.2.1⟩ ⟨hsz.2.2.2.2.1, hsz.2.2.2.2.2⟩ HI.out.wd.ok HI.out.rd (by have := HN.out; omega) HI.out.le (by omega))
      have hlb : (byt s).length = s.size := byt_len s
      have hTw := readC_two (T := T) (V := V) (S := S) (c := c) (s := byt s) (at_ := at_) HSZ.out HI.out.wd.ok (byt_lt s) (by rw [hlb]; exact HI.out.le)
      have hD1 : ∀ w1, Turn [C, rb] wr w1 → Wd T V S c D b 16777216 ((byt s).take at_) (b + 1) u w1 ∧ Below W.heap.size W w1 := fun w1 hT => ⟨HI.out.wd.turn hT (by simp only [List.mem_cons, List.not_mem_nil, or_false]; omega) (by simp only [List.mem_cons, List.not_mem_nil, or_false]; omega) (fun g hg => by
          have h1 := hown g hg
          have h2 := HU.out g hg
          simp only [List.mem_cons, List.not_mem_nil, or_false]; omega), HI.out.be.trans (hT.below (fun x hx => by
          rcases List.mem_cons.1 hx with e | hx
          · omega
          rcases List.mem_cons.1 hx with e | hx
          · omega
          cases hx) HI.out.be.size)⟩
      have HD1 := hid hD1
      have HLT := hid hlt
      clear hD1 hown hlt hkl n1 n2 n3 n4 hsz
      rcases hTw with ⟨r', he, hle, hz⟩ | ⟨ev, n, hn, ht, hok, hoc, hle, hbs, hz⟩
      · have HE : Hid (r'.err ≠ 0) := hid he
        have j4 : ((r'.err : Int) == 0) = false := by rw [beq_eq_false_iff_ne]; omega
        have j5 : ((r'.err : Int) != 0) = true := by rw [bne_iff_ne]; omega
        have HLE := hid hle
        rw [hz] at HR
        unfold ReadEP at HR
        dsimp only [evA] at HR
        clear he hle hz hlb
        go_wp2_with fail
        refine HR.out.mono ?_
        rintro e' w1 ⟨rfl, hC1, hR1, hT1⟩
        obtain ⟨hd1, hbe1⟩ := HD1.out w1 hT1
        obtain ⟨Wz, hWz⟩ : ∃ Wz, Wz = w1.alloc (.cells #[.int .u8 0, .int .i64 0, .int .i64 0, .int .i64 0, .int .i64 0, .int .i64 0, .int .u8 0] 33) := ⟨_, rfl⟩
        have hbz : Below w1.heap.size w1 Wz := by rw [hWz]; exact ext_alloc (ext_refl _) _
        have hez : Blk Wz w1.heap.size #[.int .u8 0, .int .i64 0, .int .i64 0, .int .i64 0, .int .i64 0, .int .i64 0, .int .u8 0] 33 := by rw [hWz]; exact Blk.new _ _ _
        have HWR := hid (rWrong_any rb s r'.at_ r'.err Wz (show RdrAt Wz rb s r'.at_ r'.err from Blk.below hbz hR1))
        rw [if_neg HE.out] at HWR
        have HD := hid (hd1.below hbz)
        have HBE := hid (ext_trans hbe1 hbz)
        have HEZ := hid hez
        have HWZ := hid hWz
        clear hC1 hR1 hT1 hd1 hbe1 HD1 HR hWz hbz hez
        go_wp2_with fail
        rw [← HWZ.out]
        refine HWR.out.mono ?_
        rintro e' w2 ⟨rfl, hb2⟩
        have HD2 := hid (HD.out.below hb2)
        have HBE2 := hid (ext_trans HBE.out hb2)
        have hez := HEZ.out.below hb2
        have e0 := hez.cell 0 (v := .int .u8 0) rfl
        have e1 := hez.cell 1 (v := .int .i64 0) rfl
        have e2 := hez.cell 2 (v := .int .i64 0) rfl
        have e3 := hez.cell 3 (v := .int .i64 0) rfl
        have e4 := hez.cell 4 (v := .int .i64 0) rfl
        have e5 := hez.cell 5 (v := .int .i64 0) rfl
        have e6 := hez.cell 6 (v := .int .u8 0) rfl
        clear hb2 HD HBE HWR HWZ HEZ hez
        have hlen : ((byt s).take at_).length = at_ := by rw [List.length_take, byt_len]; have := HI.out.le; omega
        have HLN := hid (wLen_any b 16777216 _ w2 HD2.out.wr.wrt (by rw [hlen]; have := HI.out.le; have := HN.out; omega))
        rw [hlen] at HLN
        have HTX := hid (wText_any b 16777216 _ w2 HD2.out.wr.wrt (fun x hx => byt_lt s x (List.mem_of_mem_take hx)))
        rw [dext_head] at HTX
        have k1 : decide ((at_ : Int) ≤ (r'.at_ : Int)) = true := by rw [decide_eq_true_iff]; have := HLE.out; omega
        have k2 : decide (at_ ≤ r'.at_) = true := by rw [decide_eq_true_iff]; exact HLE.out
        have k3 : (at_ : Int) ≤ (s.size : Int) := by have := HI.out.le; omega
        have k4 : (0 : Int) ≤ (at_ : Int) := by omega
        have k5 : at_ ≤ s.size := HI.out.le
        clear hlen
        go_wp2_with fail
        refine HLN.out.mono ?_
        rintro e' w3 ⟨rfl, rfl⟩
        go_wp2_with fail
        refine HTX.out.mono ?_
        rintro e' w3 ⟨rfl, rfl⟩
        go_wp2_with fail
        refine HLN.out.mono ?_
        rintro e' w3 ⟨rfl, rfl⟩
        go_wp2_with fail
        rw [HQ.out]
        exact ⟨rfl, HBE2.out⟩
      · rw [hz] at HR
        unfold ReadEP at HR
        rw [hlb] at hle
        have HLE := hid hle
        have HBS := hid hbs
        have HOKE := hid hok
        have HT := hid ht
        have HOC := hid hoc
        have hmay : mayE ev T V S = true := by
          unfold tellsC at ht
          rw [Bool.and_eq_true] at ht
          exact ht.1
        have HMAY := hid hmay
        have HNL := hid hn
        obtain ⟨kind, th, tx, ea, v, x, why⟩ := ev
        dsimp only [evA] at HR
        clear hz hlb hle hbs hok ht hoc hmay hn
        go_wp2_with fail
        refine HR.out.mono ?_
        rintro e' w1 ⟨rfl, hC1, hR1, hT1⟩
        obtain ⟨hd1, hbe1⟩ := HD1.out w1 hT1
        obtain ⟨Wz, hWz⟩ : ∃ Wz, Wz = w1.alloc (.cells #[.int .u8 kind, .int .i64 th, .int .i64 tx, .int .i64 ea, .int .i64 v, .int .i64 x, .int .u8 why] 33) := ⟨_, rfl⟩
        have hbz : Below w1.heap.size w1 Wz := by rw [hWz]; exact ext_alloc (ext_refl _) _
        have hez : Blk Wz w1.heap.size #[.int .u8 kind, .int .i64 th, .int .i64 tx, .int .i64 ea, .int .i64 v, .int .i64 x, .int .u8 why] 33 := by rw [hWz]; exact Blk.new _ _ _
        have e0 := hez.cell 0 (v := .int .u8 kind) rfl
        have e1 := hez.cell 1 (v := .int .i64 th) rfl
        have e2 := hez.cell 2 (v := .int .i64 tx) rfl
        have e3 := hez.cell 3 (v := .int .i64 ea) rfl
        have e4 := hez.cell 4 (v := .int .i64 v) rfl
        have e5 := hez.cell 5 (v := .int .i64 x) rfl
        have e6 := hez.cell 6 (v := .int .u8 why) rfl
        have HM := hid (may_any ⟨kind, th, tx, ea, v, x, why⟩ T V S Wz HOKE.out (HK.out.below (ext_trans hbe1 hbz)))
        rw [HMAY.out] at HM
        dsimp only [evA] at HM
        have HD := hid (hd1.below hbz)
        have HBE := hid (ext_trans hbe1 hbz)
        have HC1 := hid (hC1.below hbz)
        have HR1 := hid (show RdrAt Wz rb s (at_ + n) 0 from Blk.below hbz hR1)
        have HEZ := hid hez
        have HWZ := hid hWz
        clear hC1 hR1 hT1 hd1 hbe1 HD1 HR hWz hez hbz
        go_wp2_with (rw [← HWZ.out]; go_simp)
        refine HM.out.mono ?_
        rintro e' w2 ⟨rfl, hb2⟩
        have hez := HEZ.out.below hb2
        clear e0 e1 e2 e3 e4 e5 e6 HWZ HEZ
        have e0 := hez.cell 0 (v := .int .u8 kind) rfl
        have e1 := hez.cell 1 (v := .int .i64 th) rfl
        have e2 := hez.cell 2 (v := .int .i64 tx) rfl
        have e3 := hez.cell 3 (v := .int .i64 ea) rfl
        have e4 := hez.cell 4 (v := .int .i64 v) rfl
        have e5 := hez.cell 5 (v := .int .i64 x) rfl
        have e6 := hez.cell 6 (v := .int .u8 why) rfl
        clear hez
        have HD2 := hid (HD.out.below hb2)
        have HBE2 := hid (ext_trans HBE.out hb2)
        have HC2 := hid (HC1.out.below hb2)
        have HR2 := hid (show RdrAt w2 rb s (at_ + n) 0 from Blk.below hb2 HR1.out)
        clear hb2 HD HBE HM HC1 HR1
        have hlen : ((byt s).take at_).length = at_ := by rw [List.length_take, byt_len]; have := HI.out.le; omega
        have HW := hid (wr_yes HD2.out (HK.out.below HBE2.out) (e := ⟨kind, th, tx, ea, v, x, why⟩) HOKE.out HT.out (by rw [hlen]; have := HI.out.le; have := HN.out; omega) (by rw [hlen]; have := HI.out.le; have := HN.out; omega))
        dsimp only [evA] at HW
        unfold WrYes at HW
        rw [HBS.out] at HW
        clear hlen
        go_wp2_with fail
        refine HW.out.mono ?_
        rintro e' w3 ⟨rfl, u', hd3, hu3, hT3⟩
        have HD3 := hid hd3
        obtain ⟨n1, n2, n3, n4⟩ := HNE.out
        have hrb : rb < w2.heap.size := Blk.lt HR2.out
        have hni : rb ∉ D :: b :: u.ownBlock.toList := by
          intro hm
          rcases List.mem_cons.1 hm with e | hm
          · omega
          rcases List.mem_cons.1 hm with e | hm
          · omega
          exact HU.out rb (by simpa using hm) rfl
        have hnc : C ∉ D :: b :: u.ownBlock.toList := by
          intro hm
          rcases List.mem_cons.1 hm with e | hm
          · omega
          rcases List.mem_cons.1 hm with e | hm
          · omega
          have := HOWN.out C (by simpa using hm)
          omega
        have HC3 := hid (hT3.blk hnc HC2.out)
        have HR3 := hid (show RdrAt w3 rb s (at_ + n) 0 from hT3.blk hni HR2.out)
        have HBE3 := hid (HBE2.out.trans (HD2.out.low hT3 (by omega) (by omega)))
        have HU3 := hid (show ∀ g, u'.ownBlock = some g → g ≠ rb from fun g hg => by
          rcases hu3 with e | ⟨g', e, hg'⟩
          · exact HU.out g (by rw [← e]; exact hg)
          · rw [hg] at e; cases e; omega)
        have HTX := hid (wText_any b 16777216 _ w3 hd3.wr.wrt (fun x hx => byt_lt s x (List.mem_of_mem_take hx)))
        rw [dext_head] at HTX
        have HAT := hid (rAt_any rb s (at_ + n) 0 w3 HR3.out)
        have k3 : ((at_ + n : Nat) : Int) ≤ (s.size : Int) := by have := HLE.out; omega
        have k4 : (0 : Int) ≤ ((at_ + n : Nat) : Int) := by omega
        have k5 : at_ + n ≤ s.size := HLE.out
        clear hd3 hu3 hT3 n1 n2 n3 n4 hrb hni hnc HD2 HBE2 HC2 HR2 HW HNL
        generalize at_ + n = at2 at *
        go_wp2_with fail
        refine HTX.out.mono ?_
        rintro e' w4 ⟨rfl, rfl⟩
        go_wp2_with fail
        refine HAT.out.mono ?_
        rintro e' w4 ⟨rfl, rfl⟩
        go_wp2_with fail
        go_roundw
        case rel => exact ⟨k + 1, _, at2, u', by have := HLT.out; omega, by simp, hid ⟨HC3.out, HD3.out, HR3.out, HLE.out, HBE3.out⟩, HU3⟩
        case measure => have := HLT.out; simp [intOf]; omega
    · obtain rfl : k = 5000 := by omega
      have j1 : decide (((5000 : Nat) : Int) < 5000) = false := by decide
      have hlen : ((byt s).take at_).length = at_ := by rw [List.length_take, byt_len]; have := HI.out.le; omega
      have HLN := hid (wLen_any b 16777216 _ wr HI.out.wd.wr.wrt (by rw [hlen]; have := HI.out.le; have := HN.out; omega))
      rw [hlen] at HLN
      have HAT := hid (rAt_any rb s at_ 0 wr HI.out.rd)
      clear hlen hkl hlt HKL
      go_wp2_with fail
      refine HAT.out.mono ?_
      rintro e' w4 ⟨rfl, rfl⟩
      go_wp2_with fail
      refine HLN.out.mono ?_
      rintro e' w4 ⟨rfl, rfl⟩
      go_wp2_with fail
      rw [HQ.out]
      exact ⟨rfl, HI.out.be⟩
theorem deltaAnew_any (T V S : Int) (s : ByteArray) (W : World) (hKd : KindsAt W) : Calls Tryd.prog 6 #[.int .i64 T, .int .i64 V, .int .i64 S, .string s] W fun e' W' => e' = .returned (.bool true) ∧ Below W.heap.size W W' := by
  by_cases hl : s.size ≤ 5000
  · cases hz : sizesB T V S with
    | true => exact anew_ok T V S s W hKd hl hz
    | false => exact anew_bad T V S s W hKd hl hz
  · exact anew_great T V S s W hKd (by omega)
end Go.Proofs.YtokkafiphchejaaDoor
