import Derived.Test.YtnblhodhkifeeaaGreatDoorTbA
namespace Go.Proofs.YtnblhodhkifeeaaGreatDoor.Bt
set_option linter.unusedVariables false
set_option linter.unusedSimpArgs false
open Go Go.RowKit
theorem rem_at (n : Int) (M : Nat) (h0 : 0 < M) : ∃ k : Nat, (IntKind.u64.wrap n).tmod (M : Int) = (k : Int) ∧ k < M := by
 have e : IntKind.u64.wrap n = n % 18446744073709551616 := IntKind.wrap_u64 n
 rw [e, Int.tmod_eq_emod_of_nonneg (by omega)]
 have h1 : 0 ≤ n % 18446744073709551616 % (M : Int) := Int.emod_nonneg _ (by omega)
 have h2 : n % 18446744073709551616 % (M : Int) < (M : Int) := Int.emod_lt_of_pos _ (by omega)
 exact ⟨(n % 18446744073709551616 % (M : Int)).toNat, by omega, by omega⟩
def CodeP (c : Nat) (w : World) (e' : Ending) (w' : World) : Prop :=
 ∃ T V S a n cap q, e' = .returned (.tuple #[.agg #[.int .i64 T, .int .i64 V, .int .i64 S, .slice a n cap], .int .i64 q, .int .i64 (c : Int)]) ∧ Below w.heap.size w w'
theorem dec_code (s : ByteArray) (w : World) (hs : s.size ≤ 2000000) (hK : KindsAt w) (hT : TabOk w) {c : Nat} (hc : (decL (byt s)).2.2 = c) : Calls Tryz.prog 13 #[.string s] w (CodeP c w) :=
 (dec_any s w (by omega) hK hT).mono fun e' w' h => by
  unfold DecP at h
  obtain ⟨av, cap, h1, h2, h3⟩ := h
  rw [hc] at h1
  exact ⟨_, _, _, _, _, _, _, h1, h3⟩
theorem size_byt {s : ByteArray} {l : List Nat} (h : byt s = l) : s.size = l.length := by rw [← byt_len, h]
theorem head_byte {fa : ByteArray} {x : List Nat} (hbf : byt fa = frameL x) (hl : x.length ≤ 1000000) {m : Nat} (hm : m < (putN x.length).length) (hin : m < fa.size) : (m + 1 < (putN x.length).length → 128 ≤ fa[m].toNat) ∧ (m + 1 = (putN x.length).length → fa[m].toNat < 128) := by
 have h := put_high 10 x.length m (by omega) hm
 have e : fa[m].toNat = (putN x.length).getD m 0 := by
  have h1 := byt_get fa m hin
  rw [hbf] at h1
  have h2 : (frameL x)[m]? = some fa[m].toNat := by
   have := congrArg (fun l : List Nat => l[0]?) h1
   simpa using this
  unfold frameL at h2
  rw [List.append_assoc, List.getElem?_append_left hm] at h2
  rw [List.getD_eq_getElem?_getD, h2]
  rfl
 rw [e]
 exact h
set_option maxRecDepth 100000 in
set_option maxHeartbeats 4000000 in
theorem traceBent_great (T V S : Int) (a : Option Addr) (l : List Ev) (cap : Nat) (at0 xb : Int) (b : ByteArray) (w : World) (hK : KindsAt w) (hT : TabOk w) (hb : 2000 < l.length ∨ 1000 < b.size) : Calls Tryz.prog 6 #[trA T V S a l.length cap, .int .i64 at0, .int .u32 xb, .string b] w fun e' w' => e' = .returned (.bool true) ∧ Below w.heap.size w w' := by
 obtain ⟨W1, hW1⟩ : ∃ W1, W1 = w.alloc (.cells #[.int .i64 T, .int .i64 V, .int .i64 S, .slice a l.length cap] 25) := ⟨_, rfl⟩
 have hb1 : Below w.heap.size w W1 := by rw [hW1]; exact ext_alloc (ext_refl _) _
 have hx1 : Blk W1 w.heap.size #[.int .i64 T, .int .i64 V, .int .i64 S, .slice a l.length cap] 25 := by rw [hW1]; exact Blk.new _ _ _
 have HWK := hid (fun w' (h : Below w.heap.size w w') => works_any w' (hK.below h) (hT.below h))
 have HB1 := hid hb1
 have HX1 := hid hx1
 have HW1 := hid hW1
 obtain ⟨Q, hQ⟩ : ∃ Q : Ending → World → Prop, Q = fun e' w' => e' = .returned (.bool true) ∧ Below w.heap.size w w' := ⟨_, rfl⟩
 rw [← hQ]
 have HQ := hid hQ
 dsimp only [trA]
 clear hK hT hb1 hx1 hW1 hQ
 by_cases h1 : 2000 < l.length
 case' pos =>
  have g1 : decide ((2000 : Int) < (l.length : Int)) = true := by rw [decide_eq_true_iff]; omega
  have g2 : decide (2000 < l.length) = true := by rw [decide_eq_true_iff]; omega
 case' neg =>
  have g1 : decide ((2000 : Int) < (l.length : Int)) = false := by rw [decide_eq_false_iff_not]; omega
  have g2 : decide (2000 < l.length) = false := by rw [decide_eq_false_iff_not]; omega
  have g3 : decide ((1000 : Int) < (b.size : Int)) = true := by rw [decide_eq_true_iff]; omega
  have g4 : decide (1000 < b.size) = true := by rw [decide_eq_true_iff]; omega
 all_goals
  clear hb h1
  go_enter Tryz.func6, Tryz.ntmps6
  go_wp2_with fail
  rw [← HW1.out]
  refine (HWK.out W1 HB1.out).mono ?_
  rintro e' w1 ⟨rfl, hb1⟩
  have x3 := (HX1.out.below hb1).cell 3 (v := .slice a l.length cap) rfl
  have HB2 := hid (ext_trans HB1.out hb1)
  clear hb1
  go_wp2_with fail
  refine (HWK.out _ HB2.out).mono ?_
  rintro e' w2 ⟨rfl, hb2⟩
  go_wp2_with fail
  rw [HQ.out]
  exact ⟨rfl, ext_trans HB2.out hb2⟩
set_option maxRecDepth 100000 in
set_option maxHeartbeats 4000000 in
theorem traceBent_bad (T V S : Int) (a : Option Addr) (l : List Ev) (cap : Nat) (at0 xb : Int) (b : ByteArray) (w : World) (hE : EvsAt w a l) (hK : KindsAt w) (hT : TabOk w) (hl : l.length ≤ 2000) (hbs : b.size ≤ 1000) (hc : (checkT T V S l).2 ≠ 0) : Calls Tryz.prog 6 #[trA T V S a l.length cap, .int .i64 at0, .int .u32 xb, .string b] w fun e' w' => e' = .returned (.bool true) ∧ Below w.heap.size w w' := by
 obtain ⟨W1, hW1⟩ : ∃ W1, W1 = w.alloc (.cells #[.int .i64 T, .int .i64 V, .int .i64 S, .slice a l.length cap] 25) := ⟨_, rfl⟩
 have hb1 : Below w.heap.size w W1 := by rw [hW1]; exact ext_alloc (ext_refl _) _
 have hx1 : Blk W1 w.heap.size #[.int .i64 T, .int .i64 V, .int .i64 S, .slice a l.length cap] 25 := by rw [hW1]; exact Blk.new _ _ _
 have HWK := hid (works_any W1 (hK.below hb1) (hT.below hb1))
 have HEN := hid (fun w' (h : Below w.heap.size w w') => enc_any T V S a l cap w' (hE.below h) (hK.below h) (hT.below h))
 unfold EncP at HEN
 rw [if_neg hc] at HEN
 obtain ⟨q, hq⟩ : ∃ q, q = (checkT T V S l).2 := ⟨_, rfl⟩
 rw [← hq] at HEN hc
 have j1 : (q == 0) = false := beq_eq_false_iff_ne.2 hc
 have j2 : (q != 0) = true := bne_iff_ne.2 hc
 have g1 : decide ((2000 : Int) < (l.length : Int)) = false := by rw [decide_eq_false_iff_not]; omega
 have g2 : decide (2000 < l.length) = false := by rw [decide_eq_false_iff_not]; omega
 have g3 : decide ((1000 : Int) < (b.size : Int)) = false := by rw [decide_eq_false_iff_not]; omega
 have g4 : decide (1000 < b.size) = false := by rw [decide_eq_false_iff_not]; omega
 have HB1 := hid hb1
 have HX1 := hid hx1
 have HW1 := hid hW1
 obtain ⟨Q, hQ⟩ : ∃ Q : Ending → World → Prop, Q = fun e' w' => e' = .returned (.bool true) ∧ Below w.heap.size w w' := ⟨_, rfl⟩
 rw [← hQ]
 have HQ := hid hQ
 dsimp only [trA] at HEN ⊢
 clear hE hK hT hl hbs hc hq hb1 hx1 hW1 hQ
 go_enter Tryz.func6, Tryz.ntmps6
 go_wp2_with fail
 rw [← HW1.out]
 refine HWK.out.mono ?_
 rintro e' w1 ⟨rfl, hb1⟩
 have x0 := (HX1.out.below hb1).cell 0 (v := .int .i64 T) rfl
 have x1 := (HX1.out.below hb1).cell 1 (v := .int .i64 V) rfl
 have x2 := (HX1.out.below hb1).cell 2 (v := .int .i64 S) rfl
 have x3 := (HX1.out.below hb1).cell 3 (v := .slice a l.length cap) rfl
 have HB2 := hid (ext_trans HB1.out hb1)
 clear hb1
 go_wp2_with fail
 refine (HEN.out _ HB2.out).mono ?_
 rintro e' w2 ⟨rfl, hb2⟩
 go_wp2_with fail
 rw [HQ.out]
 exact ⟨rfl, ext_trans HB2.out hb2⟩
set_option maxRecDepth 100000 in
set_option maxHeartbeats 8000000 in
theorem traceBent_good (T V S : Int) (a : Option Addr) (l : List Ev) (cap : Nat) (at0 xb : Int) (b : ByteArray) (w : World) (hE : EvsAt w a l) (hK : KindsAt w) (hT : TabOk w) (hl : l.length ≤ 2000) (hbs : b.size ≤ 1000) (hxb : 0 ≤ xb ∧ xb ≤ 4294967295) (hc : (checkT T V S l).2 = 0) : Calls Tryz.prog 6 #[trA T V S a l.length cap, .int .i64 at0, .int .u32 xb, .string b] w fun e' w' => e' = .returned (.bool true) ∧ Below w.heap.size w w' := by
 obtain ⟨hx0, hx1'⟩ := hxb
 obtain ⟨X, rfl⟩ := Int.eq_ofNat_of_zero_le hx0
 obtain ⟨W1, hW1⟩ : ∃ W1, W1 = w.alloc (.cells #[.int .i64 T, .int .i64 V, .int .i64 S, .slice a l.length cap] 25) := ⟨_, rfl⟩
 have hb1 : Below w.heap.size w W1 := by rw [hW1]; exact ext_alloc (ext_refl _) _
 have hx1 : Blk W1 w.heap.size #[.int .i64 T, .int .i64 V, .int .i64 S, .slice a l.length cap] 25 := by rw [hW1]; exact Blk.new _ _ _
 have hxs : ∀ e ∈ l, -9223372036854775808 ≤ e.x ∧ e.x ≤ 9223372036854775807 := fun e he => (hE.1 e he).2.2.2.2.2.1
 have HWK := hid (works_any W1 (hK.below hb1) (hT.below hb1))
 have HEN := hid (fun w' (h : Below w.heap.size w w') => enc_any T V S a l cap w' (hE.below h) (hK.below h) (hT.below h))
 unfold EncP at HEN
 rw [if_pos hc, hc] at HEN
 have hlx := (bodyL_len hxs hc).1
 have hbx := bodyL_byte T V S l
 have hdec := dec_enc hxs hc
 obtain ⟨x, hx⟩ : ∃ x, x = bodyL T V S l := ⟨_, rfl⟩
 rw [← hx] at HEN hlx hbx hdec
 obtain ⟨fa, hfa⟩ : ∃ fa, fa = bstr (frameL x) := ⟨_, rfl⟩
 have hbf : byt fa = frameL x := by rw [hfa]; exact byt_bstr (frameL_lt hbx)
 obtain ⟨p, hp⟩ : ∃ p, p = (putN x.length).length := ⟨_, rfl⟩
 have hp10 := putN_ten x.length
 have hp1 : 1 ≤ (putN x.length).length := by unfold putN putF; split <;> simp
 rw [← hp] at hp10 hp1
 have hfs : fa.size = p + x.length + 4 := by rw [size_byt hbf, frameL_len, ← hp]
 rw [← hfa] at HEN
 have HHB := hid (fun m (hm : m < p) (hin : m < fa.size) => (hp ▸ head_byte hbf (by omega) (hp ▸ hm) hin : (m + 1 < p → 128 ≤ fa[m].toNat) ∧ (m + 1 = p → fa[m].toNat < 128)))
 obtain ⟨M, hM⟩ : ∃ M, M = fa.size - p := ⟨_, rfl⟩
 obtain ⟨r, hr, hrM⟩ := rem_at at0 M (by omega)
 obtain ⟨n, hn, hnM⟩ := rem_at at0 fa.size (by omega)
 obtain ⟨k, hk⟩ : ∃ k, k = p + r := ⟨_, rfl⟩
 obtain ⟨t, ht⟩ : ∃ t, t = bstr (bentL (byt fa) k (four X)) := ⟨_, rfl⟩
 have hbt : byt t = bentL (byt fa) k (four X) := by rw [ht]; exact byt_bstr (bent_byte _ _ _ (byt_lt fa) (four_lt X))
 have hts : t.size = fa.size := by rw [← byt_len, hbt, bent_len, byt_len]
 obtain ⟨c1, cb, hd1, hcm, hcb⟩ : ∃ (c1 : Nat) (cb : Bool), (decL (byt t)).2.2 = c1 ∧ (t.toList == fa.toList) = cb ∧ ((c1 = 0 ∧ cb = true) ∨ (c1 = 9 ∧ cb = false)) := by
  by_cases hq : bentL (frameL x) k (four X) = frameL x
  ·refine ⟨0, true, ?_, ?_, Or.inl ⟨rfl, rfl⟩⟩
   ·rw [hbt, hbf, hq, hdec]
   ·rw [dcmp_byt, hbt, hbf, hq]; exact decide_eq_true rfl
  ·refine ⟨9, false, ?_, ?_, Or.inr ⟨rfl, rfl⟩⟩
   ·rw [hbt, hbf]; exact bent_dec (by omega) hbx k X (by omega) hq
   ·rw [dcmp_byt, hbt, hbf]; exact decide_eq_false hq
 have HD1 := hid (fun w' (h : Below w.heap.size w w') => dec_code t w' (by omega) (hK.below h) (hT.below h) hd1)
 have hd2 : (decL (byt (fa.extract 0 n))).2.2 = 8 := by rw [byt_head, hbf]; exact cut_dec (by omega) hbx (by rw [← hbf, byt_len]; exact hnM)
 have hs2 : (fa.extract 0 n).size ≤ 2000000 := by rw [← byt_len, byt_head, List.length_take, byt_len]; omega
 have HD2 := hid (fun w' (h : Below w.heap.size w w') => dec_code (fa.extract 0 n) w' hs2 (hK.below h) (hT.below h) hd2)
 have hbl : b.toList.isEmpty = decide (byt b = []) := by
  rw [ByteArray.toList_eq, Bool.eq_iff_iff, List.isEmpty_iff, decide_eq_true_iff]
  unfold byt
  simp
 obtain ⟨c3, cd, hd3, hce, hcd⟩ : ∃ (c3 : Nat) (cd : Bool), (decL (byt (fa ++ b))).2.2 = c3 ∧ b.toList.isEmpty = cd ∧ ((c3 = 0 ∧ cd = true) ∨ (c3 = 10 ∧ cd = false)) := by
  by_cases hq : byt b = []
  ·refine ⟨0, true, ?_, ?_, Or.inl ⟨rfl, rfl⟩⟩
   ·rw [byt_app, hq, List.append_nil, hbf, hdec]
   ·rw [hbl, hq]; exact decide_eq_true rfl
  ·refine ⟨10, false, ?_, ?_, Or.inr ⟨rfl, rfl⟩⟩
   ·rw [byt_app, hbf]; exact long_dec (by omega) hbx hq (by rw [byt_len]; omega)
   ·rw [hbl]; exact decide_eq_false hq
 have hs3 : (fa ++ b).size ≤ 2000000 := by rw [← byt_len, byt_app, List.length_append, byt_len, byt_len]; omega
 have HD3 := hid (fun w' (h : Below w.heap.size w w') => dec_code (fa ++ b) w' hs3 (hK.below h) (hT.below h) hd3)
 unfold CodeP at HD1 HD2 HD3
 have g1 : decide ((2000 : Int) < (l.length : Int)) = false := by rw [decide_eq_false_iff_not]; omega
 have g2 : decide (2000 < l.length) = false := by rw [decide_eq_false_iff_not]; omega
 have g3 : decide ((1000 : Int) < (b.size : Int)) = false := by rw [decide_eq_false_iff_not]; omega
 have g4 : decide (1000 < b.size) = false := by rw [decide_eq_false_iff_not]; omega
 have HB1 := hid hb1
 have HX1 := hid hx1
 have HW1 := hid hW1
 have HF := hid (show fa.size = p + x.length + 4 ∧ x.length ≤ 30000 ∧ 1 ≤ p ∧ p ≤ 10 ∧ M = fa.size - p ∧ r < M ∧ n < fa.size ∧ k = p + r ∧ X ≤ 4294967295 ∧ b.size ≤ 1000 from ⟨hfs, by omega, hp1, hp10, hM, hrM, hnM, hk, by omega, hbs⟩)
 have HT := hid (show byt t = bentL (byt fa) k (four X) ∧ t = bstr (bentL (byt fa) k (four X)) from ⟨hbt, ht⟩)
 have HR := hid (And.intro hr hn)
 have HC := hid (show (t.toList == fa.toList) = cb ∧ ((c1 = 0 ∧ cb = true) ∨ (c1 = 9 ∧ cb = false)) ∧ b.toList.isEmpty = cd ∧ ((c3 = 0 ∧ cd = true) ∨ (c3 = 10 ∧ cd = false)) from ⟨hcm, hcb, hce, hcd⟩)
 obtain ⟨Q, hQ⟩ : ∃ Q : Ending → World → Prop, Q = fun e' w' => e' = .returned (.bool true) ∧ Below w.heap.size w w' := ⟨_, rfl⟩
 rw [← hQ]
 have HQ := hid hQ
 dsimp only [trA] at HEN ⊢
 clear hE hK hT hl hbs hc hb1 hx1 hW1 hQ hxs hlx hbx hdec hx hfa hbf hp hp10 hp1 hfs hM hr hrM hn hnM hk ht hbt hts hd1 hcm hcb hd2 hd3 hce hcd hx0 hx1' hs2 hs3 hbl
 go_enter Tryz.func6, Tryz.ntmps6
 go_wp2_with fail
 rw [← HW1.out]
 refine HWK.out.mono ?_
 rintro e' w1 ⟨rfl, hb1⟩
 have x0 := (HX1.out.below hb1).cell 0 (v := .int .i64 T) rfl
 have x1 := (HX1.out.below hb1).cell 1 (v := .int .i64 V) rfl
 have x2 := (HX1.out.below hb1).cell 2 (v := .int .i64 S) rfl
 have x3 := (HX1.out.below hb1).cell 3 (v := .slice a l.length cap) rfl
 have HB2 := hid (ext_trans HB1.out hb1)
 clear hb1
 go_wp2_with fail
 refine (HEN.out _ HB2.out).mono ?_
 rintro e' w2 ⟨rfl, hb2⟩
 have HB := hid (ext_trans HB2.out hb2)
 clear hb2 x0 x1 x2 x3 HEN HWK HX1 HW1 HB1 HB2 g1 g2 g3 g4
 go_wp2_with fail
 go_loopw [11] (fun i wr => ∃ m : Nat, m + 1 ≤ p ∧ i = .int .i64 m ∧ Hid (Below w.heap.size w wr)) (fun i _ => p - (intOf i).toNat)
 case atStart => exact ⟨0, by have := HF.out; omega, rfl, HB⟩
 case round =>
  obtain ⟨m, hm, rfl, HB⟩ := hrel
  have hin : m < fa.size := by have := HF.out; omega
  have hin2 : (m : Int) < (fa.size : Int) := by omega
  have hin3 : (0 : Int) ≤ (m : Int) := by omega
  have hin4 : decide ((m : Int) < (fa.size : Int)) = true := decide_eq_true hin2
  have HHM := hid (HHB.out m (by omega) hin)
  have hw1 : IntKind.i64.wrap ((m : Int) + 1) = (m : Int) + 1 := IntWalk.i64_in _ (by have := HF.out; omega)
  by_cases hlt : m + 1 < p
  ·have hge : (128 : Int) ≤ (fa[m].toNat : Int) := by have := HHM.out.1 hlt; omega
   have HLT := hid hlt
   clear hlt hm
   go_wp2_with fail
   go_roundw
   case rel => exact ⟨m + 1, by have := HLT.out; omega, by go_num, HB⟩
   case measure => have := HLT.out; simp [intOf]; omega
  ·have hge : ¬ (128 : Int) ≤ (fa[m].toNat : Int) := by have := HHM.out.2 (by omega); omega
   obtain rfl : p = m + 1 := by omega
   obtain ⟨c, hcc, hcv⟩ := run_bytes wr fa
   obtain ⟨hr, hn⟩ := HR.out
   have h1 : ¬ (fa.size : Int) ≤ (m : Int) + 1 := by have := HF.out; omega
   have v1 : IntKind.i64.wrap ((fa.size : Int) - ((m : Int) + 1)) = (M : Int) := by have := HF.out; rw [IntWalk.i64_in _ (by omega)]; omega
   have v2 : IntKind.u64.wrap (M : Int) = (M : Int) := IntWalk.u64_in _ (by have := HF.out; omega)
   have v3 : ((M : Int) == 0) = false := by have := HF.out; rw [beq_eq_false_iff_ne]; omega
   have v7 : ¬ (M : Int) = 0 := by have := HF.out; omega
   have v8 : ¬ M = 0 := by have := HF.out; omega
   have v4 : IntKind.u64.wrap (r : Int) = (r : Int) := IntWalk.u64_in _ (by have := HF.out; omega)
   have v5 : IntKind.i64.wrap (r : Int) = (r : Int) := IntWalk.i64_in _ (by have := HF.out; omega)
   have v6 : IntKind.i64.wrap ((m : Int) + 1 + (r : Int)) = (k : Int) := by have := HF.out; rw [IntWalk.i64_in _ (by omega)]; omega
   have HCC := hid hcc
   have HN := hid hn
   clear hlt hm hcc hn HHM HHB HR
   go_wp2_with fail
   have hA := ext_trans HB.out (ext_alloc (ext_drew (ext_refl wr)) (.cells (rowZ (byt fa) c) 5 (c, c + 1)))
   have hB0 : Hid (BlkM (wr.drew.alloc (.cells (rowZ (byt fa) c) 5 (c, c + 1))) wr.heap.size (rowZ (byt fa) c) 5 c) := hid (BlkM.new wr.drew _ _ c)
   have hA := hid hA
   have HBW := hid HB.out.size
   clear HB v1 v2 v3 v4 v5 v6 v7 v8 hr h1 hcv hge hin4 hw1
   generalize wr.heap.size = g at *
   go_loopw [14] (fun i w2 => ∃ j : Nat, j ≤ 4 ∧ i = .int .i64 j ∧ Hid (BlkM w2 g (rowZ (bentL (byt fa) k ((four X).take j)) c) 5 c) ∧ Hid (Below w.heap.size w w2)) (fun i _ => 4 - (intOf i).toNat)
   case atStart => exact ⟨0, by omega, rfl, by rw [List.take_zero, bent_none]; exact hB0, hA⟩
   case round =>
    obtain ⟨j, hj, rfl, HBK, HB⟩ := hrel
    clear hA hB0
    have hs0 : (fa.size : Int) ≤ 1000000 := by have := HF.out; omega
    have hk0 : (0 : Int) ≤ (k : Int) := by omega
    have hk1 : (k : Int) ≤ 1000000 := by have := HF.out; omega
    have hx0 : (0 : Int) ≤ (X : Int) := by omega
    have hx1 : (X : Int) ≤ 4294967295 := by have := HF.out; omega
    by_cases hgo : j < 4 ∧ k + j < fa.size
    case pos =>
     obtain ⟨hlt, hin⟩ := hgo
     have hin2' : (k : Int) + (j : Int) < (fa.size : Int) := by omega
     have hl0 := HBK.out.lt
     have c0 := HBK.out.cell (k + j) (v := .int .u8 (((byt fa).getD (k + j) 0 : Nat) : Int)) (rowZ_bent _ _ _ _ _ (by rw [byt_len]; exact hin) (by simp [four]; omega))
     have hyb : (byt fa).getD (k + j) 0 < 256 := getD_lt (byt_lt fa) _
     have HSN := hid (bent_snoc (byt fa) k ((four X).take j) ((four X).getD j 0))
     generalize hyy : (byt fa).getD (k + j) 0 = y at *
     have HYB := hid hyb
     have HYY := hid hyy
     clear hyb hyy
     have f0 := HBK.out.free (k + j) (by have := HCC.out; omega)
     have hw1 : IntKind.i64.wrap ((k : Int) + (j : Int)) = (k : Int) + (j : Int) := by rw [IntKind.wrap_i64]; omega
     have hw2 : IntKind.i64.wrap (8 * (j : Int)) = 8 * (j : Int) := by rw [IntKind.wrap_i64]; omega
     have hp : (0 : Int) ≤ 8 * (j : Int) := by omega
     have hp2 : 8 * (j : Int) ≤ 32 := by omega
     have hp3 : (0 : Int) ≤ (k : Int) + (j : Int) := by omega
     have HIN := hid hin
     have HLT := hid hlt
     clear hin hlt
     have hlt4 : (j : Int) < 4 := by have := HLT.out; omega
     go_wp2_with fail
     go_region
     go_wp2_with fail
     go_roundw
     case rel =>
      refine ⟨j + 1, by have := HLT.out; omega, by go_num, hid ?_, hid (ext_drew (ext_set HB.out HBW.out _))⟩
      have h := (HBK.out.set (k + j) (.int .u8 (bits .xor .u8 (y : Int) ((X : Int) / 2 ^ (8 * j) % 256)))).drew
      rw [xor_four y X j HYB.out HLT.out, rowZ_set _ _ _ _ (by rw [bent_len, byt_len]; exact HIN.out)] at h
      have h2 := HSN.out
      try rw [HYY.out] at h2
      rw [show ((four X).take j).length = j by have := HLT.out; simp [four]; omega] at h2
      rw [four_take X j HLT.out, h2, xor_four y X j HYB.out HLT.out]
      rw [show (byt fa).getD (k + j) 0 = y from HYY.out]
      exact h
     case measure => have := HLT.out; simp [intOf]; omega
    case neg =>
     have hfull : bentL (byt fa) k ((four X).take j) = bentL (byt fa) k (four X) := by
      by_cases h : j < 4
      ·exact (bent_cut (byt fa) k j (four X) (by rw [byt_len]; omega)).symm
      ·rw [show j = 4 by omega]; rfl
     rw [hfull] at HBK
     clear hfull
     obtain ⟨y, hy⟩ : ∃ y, y = bentL (byt fa) k (four X) := ⟨_, rfl⟩
     rw [← hy] at HBK
     have HY := hid (show y.length = fa.size ∧ (∀ b ∈ y, b < 256) ∧ bstr y = t from ⟨by rw [hy, bent_len, byt_len], by rw [hy]; exact bent_byte _ _ _ (byt_lt fa) (four_lt X), by rw [hy]; exact HT.out.2.symm⟩)
     have HCV := hid (fun W' (h : Below wr.heap.size wr W') => run_conv_bytes W' g 0 c y HY.out.2.1 (fun i hi => by rw [Nat.zero_add]; exact later h (HBK.out.cell i (rowZ_at _ _ _ hi))))
     rw [HY.out.1, HY.out.2.2] at HCV
     clear hy HY HT
     have hcv2 := HCV.out wr (ext_refl _)
     have u1 : IntKind.u64.wrap (fa.size : Int) = (fa.size : Int) := IntWalk.u64_in _ (by omega)
     have u2 : ((fa.size : Int) == 0) = false := by have := HF.out; rw [beq_eq_false_iff_ne]; omega
     have u3 : ¬ (fa.size : Int) = 0 := by have := HF.out; omega
     have u4 : ¬ fa.size = 0 := by have := HF.out; omega
     have u5 : IntKind.u64.wrap (n : Int) = (n : Int) := IntWalk.u64_in _ (by have := HF.out; omega)
     have u6 : IntKind.i64.wrap (n : Int) = (n : Int) := IntWalk.i64_in _ (by have := HF.out; omega)
     have u7 : (n : Int) ≤ (fa.size : Int) := by have := HF.out; omega
     have u8 : (0 : Int) ≤ (n : Int) := by omega
     have u9 : n ≤ fa.size := by omega
     have hn := HN.out
     have hz1 : ¬ (9223372036854775807 : Int) < (fa.size : Int) + (b.size : Int) := by have := HF.out; omega
     have hz2 : ¬ IntKind.i64.max < ((fa.size + b.size : Nat) : Int) := by rw [show IntKind.i64.max = 9223372036854775807 from rfl]; have := HF.out; omega
     have hz3 : ¬ IntKind.i64.max < (fa.size : Int) + (b.size : Int) := by rw [show IntKind.i64.max = 9223372036854775807 from rfl]; have := HF.out; omega
     have hz4 : (fa.size : Int) + (b.size : Int) ≤ 9223372036854775807 := by omega
     have hw1 : IntKind.i64.wrap ((k : Int) + (j : Int)) = (k : Int) + (j : Int) := by rw [IntKind.wrap_i64]; omega
     by_cases hlt : j < 4
     case' pos =>
      have hg1 : (j : Int) < 4 := by omega
      have hg2 : ¬ (k : Int) + (j : Int) < (fa.size : Int) := by omega
     case' neg =>
      have hg1 : ¬ (j : Int) < 4 := by omega
     all_goals
      clear hgo hlt hj HN
      go_wp2_with fail
      refine (HD1.out _ HB.out).mono ?_
      rintro e' w3 ⟨T3, V3, S3, a3, n3, cap3, q3, rfl, hb3⟩
      have HG := hid (ext_trans hb3 (ext_alloc (ext_refl w3) (.cells #[.int .i64 T3, .int .i64 V3, .int .i64 S3, .slice a3 n3 cap3] 25)))
      have HB := hid (ext_trans HB.out HG.out)
      clear hb3 hcv2 hg1
      go_wp2_with fail
      refine (HD2.out _ HB.out).mono ?_
      rintro e' w4 ⟨T4, V4, S4, a4, n4, cap4, q4, rfl, hb4⟩
      have HG4 := hid (ext_trans hb4 (ext_alloc (ext_refl w4) (.cells #[.int .i64 T4, .int .i64 V4, .int .i64 S4, .slice a4 n4 cap4] 25)))
      have HG := hid (ext_trans HG.out HG4.out)
      have HB := hid (ext_trans HB.out HG4.out)
      clear hb4 HG4 u1 u2 u3 u4 u5 u6 u7 u9 hn
      go_wp2_with fail
      refine (HD3.out _ HB.out).mono ?_
      rintro e' w5 ⟨T5, V5, S5, a5, n5, cap5, q5, rfl, hb5⟩
      have HG5 := hid (ext_trans hb5 (ext_alloc (ext_refl w5) (.cells #[.int .i64 T5, .int .i64 V5, .int .i64 S5, .slice a5 n5 cap5] 25)))
      have HG := hid (ext_trans HG.out HG5.out)
      have HB := hid (ext_trans HB.out HG5.out)
      clear hb5 HG5
      have hcv2 := HCV.out _ HG.out
      obtain ⟨hcm, hcb, hce, hcd⟩ := HC.out
      rcases hcb with ⟨rfl, rfl⟩ | ⟨rfl, rfl⟩
      all_goals
       rcases hcd with ⟨rfl, rfl⟩ | ⟨rfl, rfl⟩
       all_goals
        go_wp2_with fail
        rw [HQ.out]
        exact ⟨by rfl, HB.out⟩
theorem traceBent_any (T V S : Int) (a : Option Addr) (l : List Ev) (cap : Nat) (at0 xb : Int) (b : ByteArray) (w : World) (hE : EvsAt w a l) (hK : KindsAt w) (hT : TabOk w) (hxb : 0 ≤ xb ∧ xb ≤ 4294967295) : Calls Tryz.prog 6 #[trA T V S a l.length cap, .int .i64 at0, .int .u32 xb, .string b] w fun e' w' => e' = .returned (.bool true) ∧ Below w.heap.size w w' := by
 by_cases hb : l.length ≤ 2000 ∧ b.size ≤ 1000
 ·by_cases hc : (checkT T V S l).2 = 0
  ·exact traceBent_good T V S a l cap at0 xb b w hE hK hT hb.1 hb.2 hxb hc
  ·exact traceBent_bad T V S a l cap at0 xb b w hE hK hT hb.1 hb.2 hc
 ·exact traceBent_great T V S a l cap at0 xb b w hK hT (by omega)
end Go.Proofs.YtnblhodhkifeeaaGreatDoor.Bt
