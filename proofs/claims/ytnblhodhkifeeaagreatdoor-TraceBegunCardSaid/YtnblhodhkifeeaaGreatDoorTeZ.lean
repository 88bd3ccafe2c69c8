/-
 Walk: TraceBegun.
-/
import Derived.Test.YtnblhodhkifeeaaGreatDoorTrGZ
namespace Go.Proofs.YtnblhodhkifeeaaGreatDoor
set_option linter.unusedVariables false
set_option linter.unusedSimpArgs false
open Go Go.RowKit
theorem comes_takeZ (l : List Ev) : ∀ (s : Sh) (k : Nat), comesS s (l.take k) = min k (comesS s l) := by
 induction l with
 | nil => intro s k; simp [comesS]
 | cons e l ih =>
  intro s k
  cases k with
  | zero => simp [comesS]
  | succ k =>
   simp only [List.take_succ_cons, comesS]
   cases h : stepS s e with
   | none => simp
   | some s' => simp only [ih s' k]; omega
theorem told_okZ {T V S : Int} : ∀ (l : List Ev) {c : Cdr}, OkC T c → ToldOk T V S c l → OkC T (cAll c l)
 | [], c, h, _ => h
 | e :: l, c, h, hl => told_okZ l (okC_knows h hl.1.1 hl.1.2) hl.2
theorem bytesAll_ge {T V S : Int} : ∀ (l : List Ev) {c : Cdr}, OkC T c → ToldOk T V S c l → l.length ≤ (bytesAll T c l).length
 | [], c, _, _ => by simp [bytesAll]
 | e :: l, c, h, hl => by
  have h1 := bytes_len h hl.1.1
  have h2 := bytesAll_ge l (okC_knows h hl.1.1 hl.1.2) hl.2
  rw [bytesAll, List.length_append, List.length_cons]
  omega
theorem put_one {n : Nat} (h : n < 128) : putN n = [n] := by
 unfold putN putF
 rw [if_pos h]
theorem chk_take {T V S : Int} {l : List Ev} (h : (checkT T V S l).2 = 0) (k : Nat) : (checkT T V S (l.take k)).2 = 0 := by
 unfold checkT at h ⊢
 split at h
 ·cases h
 ·rename_i hz
  rw [if_neg hz]
  split at h
  ·cases h
  ·rename_i hl
   have hk : (l.take k).length = min k l.length := List.length_take
   rw [if_neg (by omega)]
   split at h
   ·cases h
   ·rename_i hc
    rw [if_neg (by rw [comes_takeZ]; omega)]
structure Begun (x y : List Nat) (m : Nat) : Prop where
 x4 : 4 ≤ x.length
 y4 : 4 ≤ y.length
 h3 : x.take 3 = y.take 3
 le : y.length ≤ x.length
 mid : (x.take y.length).drop 4 = y.drop 4
 lo : y.length + m ≤ x.length
 hi : x.length ≤ y.length + 12 * m
theorem begun_body {T V S : Int} {l : List Ev} (hx : ∀ e ∈ l, -9223372036854775808 ≤ e.x ∧ e.x ≤ 9223372036854775807) (h : (checkT T V S l).2 = 0) (hl : l.length ≤ 120) {k : Nat} (hk : k ≤ l.length) : Begun (bodyL T V S l) (bodyL T V S (l.take k)) (l.length - k) := by
 obtain ⟨hz, -, ht, hne, -⟩ := told_of_check hx h
 have hsz : 0 ≤ T ∧ T ≤ 6 ∧ 1 ≤ V ∧ V ≤ 32 ∧ 1 ≤ S ∧ S ≤ V := by unfold sizeOk at hz; exact of_decide_eq_true hz
 have hkl : (l.take k).length = k := by rw [List.length_take]; omega
 obtain ⟨r, hr⟩ : ∃ r, r = bytesAll T (cAll newC (l.take k)) (l.drop k) := ⟨_, rfl⟩
 have ha : bytesAll T newC l = bytesAll T newC (l.take k) ++ r := by rw [hr, ← bytesAll_app, List.take_append_drop]
 have hb : l.length - k ≤ r.length ∧ r.length ≤ 12 * (l.length - k) := by
  cases hl0 : l with
  | nil => rw [hl0] at hr; simp [bytesAll] at hr; rw [hr]; simp
  | cons e l' =>
   have hT : 1 ≤ T := hne (by rw [hl0]; simp)
   rw [← hl0]
   have ht' : ToldOk T V S newC (l.take k ++ l.drop k) := by rw [List.take_append_drop]; exact ht
   obtain ⟨t1, t2⟩ := (told_app T V S (l.take k) (l.drop k) newC).1 ht'
   have hc := told_okZ _ (okC_new hT) t1
   have h1 := bytesAll_ge _ hc t2
   have h2 := bytesAll_len _ hc t2
   rw [← hr, List.length_drop] at h1 h2
   exact ⟨h1, h2⟩
 obtain ⟨q, hq⟩ : ∃ q, q = bytesAll T newC (l.take k) := ⟨_, rfl⟩
 rw [← hq] at ha
 have ex : bodyL T V S l = T.toNat :: V.toNat :: S.toNat :: l.length :: (q ++ r) := by
  unfold bodyL
  rw [put_one (by omega), put_one (by omega), put_one (by omega), put_one (by omega), ha]
  rfl
 have ey : bodyL T V S (l.take k) = T.toNat :: V.toNat :: S.toNat :: k :: q := by
  unfold bodyL
  rw [put_one (by omega), put_one (by omega), put_one (by omega), put_one (by omega), hkl, ← hq]
  rfl
 rw [ex, ey]
 refine ⟨by simp, by simp, by simp, by simp, by simp, ?_, ?_⟩
 ·simp only [List.length_cons, List.length_append]; omega
 ·simp only [List.length_cons, List.length_append]; omega
theorem evs_take {w : World} {a : Option Addr} {l : List Ev} (h : EvsAt w a l) (k : Nat) : EvsAt w a (l.take k) := by
 refine ⟨fun e he => h.1 e (List.mem_of_mem_take he), fun hne => ?_⟩
 obtain ⟨b, o, e1, h2⟩ := h.2 (fun hl => hne (by rw [hl]; simp))
 refine ⟨b, o, e1, fun i hi j v hv => ?_⟩
 have hi' : i < l.length := by rw [List.length_take] at hi; omega
 refine h2 i hi' j v ?_
 rw [List.getElem_take] at hv
 exact hv
theorem begun_str {x y : List Nat} {m : Nat} (hx : ∀ b ∈ x, b < 256) (hy : ∀ b ∈ y, b < 256) (h : Begun x y m) : (bstr x).size = x.length ∧ (bstr y).size = y.length ∧ (((bstr x).extract 0 3).toList == ((bstr y).extract 0 3).toList) = true ∧ (((bstr x).extract 4 (bstr y).size).toList == ((bstr y).extract 4 (bstr y).size).toList) = true := by
 have sx : (bstr x).size = x.length := by rw [← byt_len, byt_bstr hx]
 have sy : (bstr y).size = y.length := by rw [← byt_len, byt_bstr hy]
 refine ⟨sx, sy, ?_, ?_⟩
 ·rw [dcmp_byt, byt_head, byt_head, byt_bstr hx, byt_bstr hy, h.h3]; exact decide_eq_true rfl
 ·rw [dcmp_byt, byt_mid, byt_tail, byt_bstr hx, byt_bstr hy, sy, h.mid]; exact decide_eq_true rfl
set_option maxRecDepth 100000 in
set_option maxHeartbeats 4000000 in
theorem traceBegun_great (T V S : Int) (a : Option Addr) (l : List Ev) (cap : Nat) (n : Int) (w : World) (hK : KindsAt w) (hT : TabOk w) (hb : 120 < l.length) : Calls Tryz.prog 7 #[trA T V S a l.length cap, .int .i64 n] w fun e' w' => e' = .returned (.bool true) ∧ Below w.heap.size w w' := by
 obtain ⟨W1, hW1⟩ : ∃ W1, W1 = w.alloc (.cells #[.int .i64 T, .int .i64 V, .int .i64 S, .slice a l.length cap] 25) := ⟨_, rfl⟩
 have hb1 : Below w.heap.size w W1 := by rw [hW1]; exact ext_alloc (ext_refl _) _
 have hx1 : Blk W1 w.heap.size #[.int .i64 T, .int .i64 V, .int .i64 S, .slice a l.length cap] 25 := by rw [hW1]; exact Blk.new _ _ _
 have HWK := hid (fun w' (h : Below w.heap.size w w') => works_any w' (hK.below h) (hT.below h))
 have g1 : decide ((120 : Int) < (l.length : Int)) = true := by rw [decide_eq_true_iff]; omega
 have g2 : decide (120 < l.length) = true := by rw [decide_eq_true_iff]; omega
 have HB1 := hid hb1
 have HX1 := hid hx1
 have HW1 := hid hW1
 obtain ⟨Q, hQ⟩ : ∃ Q : Ending → World → Prop, Q = fun e' w' => e' = .returned (.bool true) ∧ Below w.heap.size w w' := ⟨_, rfl⟩
 rw [← hQ]
 have HQ := hid hQ
 dsimp only [trA]
 clear hK hT hb hb1 hx1 hW1 hQ
 go_enter Tryz.func7, Tryz.ntmps7
 go_wp2_with fail
 rw [← HW1.out]
 refine (HWK.out W1 HB1.out).mono ?_
 rintro e' w1 ⟨rfl, hb1⟩
 have x3 := (HX1.out.below hb1).cell 3 (v := .slice a l.length cap) rfl
 have HB2 := hid (ext_trans HB1.out hb1)
 clear hb1
 go_wp2_with fail
 refine (HWK.out _ HB2.out).mono ?_
 rintro e' w2 ⟨rfl, hb2⟩
 go_wp2_with fail
 rw [HQ.out]
 exact ⟨rfl, ext_trans HB2.out hb2⟩
set_option maxRecDepth 100000 in
set_option maxHeartbeats 4000000 in
theorem traceBegun_bad (T V S : Int) (a : Option Addr) (l : List Ev) (cap : Nat) (n : Int) (w : World) (hE : EvsAt w a l) (hK : KindsAt w) (hT : TabOk w) (hb : l.length ≤ 120) (hc : (checkT T V S l).2 ≠ 0) : Calls Tryz.prog 7 #[trA T V S a l.length cap, .int .i64 n] w fun e' w' => e' = .returned (.bool true) ∧ Below w.heap.size w w' := by
 obtain ⟨W1, hW1⟩ : ∃ W1, W1 = w.alloc (.cells #[.int .i64 T, .int .i64 V, .int .i64 S, .slice a l.length cap] 25) := ⟨_, rfl⟩
 have hb1 : Below w.heap.size w W1 := by rw [hW1]; exact ext_alloc (ext_refl _) _
 have hx1 : Blk W1 w.heap.size #[.int .i64 T, .int .i64 V, .int .i64 S, .slice a l.length cap] 25 := by rw [hW1]; exact Blk.new _ _ _
 have HWK := hid (works_any W1 (hK.below hb1) (hT.below hb1))
 have HEN := hid (fun w' (h : Below w.heap.size w w') => enc_any T V S a l cap w' (hE.below h) (hK.below h) (hT.below h))
 unfold EncP at HEN
 rw [if_neg hc] at HEN
 obtain ⟨q, hq⟩ : ∃ q, q = (checkT T V S l).2 := ⟨_, rfl⟩
 rw [← hq] at HEN hc
 have j1 : (q == 0) = false := beq_eq_false_iff_ne.2 hc
 have j2 : (q != 0) = true := bne_iff_ne.2 hc
 have g1 : decide ((120 : Int) < (l.length : Int)) = false := by rw [decide_eq_false_iff_not]; omega
 have g2 : decide (120 < l.length) = false := by rw [decide_eq_false_iff_not]; omega
 have HB1 := hid hb1
 have HX1 := hid hx1
 have HW1 := hid hW1
 obtain ⟨Q, hQ⟩ : ∃ Q : Ending → World → Prop, Q = fun e' w' => e' = .returned (.bool true) ∧ Below w.heap.size w w' := ⟨_, rfl⟩
 rw [← hQ]
 have HQ := hid hQ
 dsimp only [trA] at HEN ⊢
 clear hE hK hT hb hc hq hb1 hx1 hW1 hQ
 go_enter Tryz.func7, Tryz.ntmps7
 go_wp2_with fail
 rw [← HW1.out]
 refine HWK.out.mono ?_
 rintro e' w1 ⟨rfl, hb1⟩
 have x0 := (HX1.out.below hb1).cell 0 (v := .int .i64 T) rfl
 have x1 := (HX1.out.below hb1).cell 1 (v := .int .i64 V) rfl
 have x2 := (HX1.out.below hb1).cell 2 (v := .int .i64 S) rfl
 have x3 := (HX1.out.below hb1).cell 3 (v := .slice a l.length cap) rfl
 have HB2 := hid (ext_trans HB1.out hb1)
 clear hb1
 go_wp2_with fail
 refine (HEN.out _ HB2.out).mono ?_
 rintro e' w2 ⟨rfl, hb2⟩
 go_wp2_with fail
 rw [HQ.out]
 exact ⟨rfl, ext_trans HB2.out hb2⟩
theorem rem_of (n : Int) (L : Nat) (h : L < 9223372036854775807) : ∃ k : Nat, (IntKind.u64.wrap n).tmod ((L : Int) + 1) = (k : Int) ∧ k ≤ L := by
 have e : IntKind.u64.wrap n = n % 18446744073709551616 := IntKind.wrap_u64 n
 rw [e, Int.tmod_eq_emod_of_nonneg (by omega)]
 have h1 : 0 ≤ n % 18446744073709551616 % ((L : Int) + 1) := Int.emod_nonneg _ (by omega)
 have h2 : n % 18446744073709551616 % ((L : Int) + 1) < (L : Int) + 1 := Int.emod_lt_of_pos _ (by omega)
 exact ⟨(n % 18446744073709551616 % ((L : Int) + 1)).toNat, by omega, by omega⟩
set_option maxRecDepth 100000 in
set_option maxHeartbeats 4000000 in
theorem traceBegun_good (T V S : Int) (a : Option Addr) (l : List Ev) (cap : Nat) (n : Int) (w : World) (hE : EvsAt w a l) (hcap : l.length ≤ cap) (hK : KindsAt w) (hT : TabOk w) (hb : l.length ≤ 120) (hc : (checkT T V S l).2 = 0) : Calls Tryz.prog 7 #[trA T V S a l.length cap, .int .i64 n] w fun e' w' => e' = .returned (.bool true) ∧ Below w.heap.size w w' := by
 obtain ⟨W1, hW1⟩ : ∃ W1, W1 = w.alloc (.cells #[.int .i64 T, .int .i64 V, .int .i64 S, .slice a l.length cap] 25) := ⟨_, rfl⟩
 have hb1 : Below w.heap.size w W1 := by rw [hW1]; exact ext_alloc (ext_refl _) _
 have hx1 : Blk W1 w.heap.size #[.int .i64 T, .int .i64 V, .int .i64 S, .slice a l.length cap] 25 := by rw [hW1]; exact Blk.new _ _ _
 have hxs : ∀ e ∈ l, -9223372036854775808 ≤ e.x ∧ e.x ≤ 9223372036854775807 := fun e he => (hE.1 e he).2.2.2.2.2.1
 obtain ⟨k, hkr, hk⟩ := rem_of n l.length (by omega)
 have hBG := begun_body hxs hc hb hk
 have hkl : (l.take k).length = k := by rw [List.length_take]; omega
 have HWK := hid (works_any W1 (hK.below hb1) (hT.below hb1))
 have HEN := hid (fun w' (h : Below w.heap.size w w') => enc_any T V S a l cap w' (hE.below h) (hK.below h) (hT.below h))
 have HEN' := hid (fun w' (h : Below w.heap.size w w') => enc_any T V S a (l.take k) cap w' (evs_take (hE.below h) k) (hK.below h) (hT.below h))
 unfold EncP at HEN HEN'
 rw [if_pos hc, hc] at HEN
 have hc' := chk_take hc k
 rw [if_pos hc', hc', hkl] at HEN'
 have hlx := bodyL_len hxs hc
 have hly := bodyL_len (fun e he => hxs e (List.mem_of_mem_take he)) hc'
 have hbx := bodyL_byte T V S l
 have hby := bodyL_byte T V S (l.take k)
 obtain ⟨x, hx⟩ : ∃ x, x = bodyL T V S l := ⟨_, rfl⟩
 obtain ⟨y, hy⟩ : ∃ y, y = bodyL T V S (l.take k) := ⟨_, rfl⟩
 rw [← hx] at HEN hlx hbx hBG
 rw [← hy] at HEN' hly hby hBG
 have HUX := hid (fun w' => unwrap_x (bstr (frameL x)) w' (by rw [← byt_len, byt_bstr (frameL_lt hbx), frameL_len]; have := putN_ten x.length; omega))
 have HUY := hid (fun w' => unwrap_x (bstr (frameL y)) w' (by rw [← byt_len, byt_bstr (frameL_lt hby), frameL_len]; have := putN_ten y.length; omega))
 have hux : unwrapL (frameL x) = (x, 0, 0) := (unwrap_wrap (by omega) hbx).2
 have huy : unwrapL (frameL y) = (y, 0, 0) := (unwrap_wrap (by omega) hby).2
 rw [byt_bstr (frameL_lt hbx), hux] at HUX
 rw [byt_bstr (frameL_lt hby), huy] at HUY
 dsimp only at HUX HUY
 obtain ⟨sx, sy, e1, e2⟩ := begun_str hbx hby hBG
 have hs4 := hBG.x4
 have hs5 := hBG.y4
 have hs6 := hBG.le
 have hs7 := hBG.lo
 have hs8 := hBG.hi
 rw [← sx] at hlx hs4 hs6 hs7 hs8
 rw [← sy] at hly hs5 hs6 hs7 hs8
 generalize bstr (frameL x) = fa at HEN HUX
 generalize bstr (frameL y) = fb at HEN' HUY
 generalize bstr x = X at *
 generalize bstr y = Y at *
 have g1 : decide ((120 : Int) < (l.length : Int)) = false := by rw [decide_eq_false_iff_not]; omega
 have g2 : decide (120 < l.length) = false := by rw [decide_eq_false_iff_not]; omega
 have u1 : IntKind.i64.wrap ((l.length : Int) + 1) = (l.length : Int) + 1 := IntWalk.i64_in _ (by omega)
 have u2 : IntKind.u64.wrap ((l.length : Int) + 1) = (l.length : Int) + 1 := IntWalk.u64_in _ (by omega)
 have u3 : ((l.length : Int) + 1 == 0) = false := by rw [beq_eq_false_iff_ne]; omega
 have u4 : IntKind.u64.wrap (k : Int) = (k : Int) := IntWalk.u64_in _ (by omega)
 have u5 : IntKind.i64.wrap (k : Int) = (k : Int) := IntWalk.i64_in _ (by omega)
 have HB1 := hid hb1
 have HX1 := hid hx1
 have HW1 := hid hW1
 obtain ⟨Q, hQ⟩ : ∃ Q : Ending → World → Prop, Q = fun e' w' => e' = .returned (.bool true) ∧ Below w.heap.size w w' := ⟨_, rfl⟩
 rw [← hQ]
 have HQ := hid hQ
 dsimp only [trA] at HEN HEN' ⊢
 have HS := hid (show 4 ≤ X.size ∧ 4 ≤ Y.size ∧ Y.size ≤ X.size ∧ Y.size + (l.length - k) ≤ X.size ∧ X.size ≤ Y.size + 12 * (l.length - k) ∧ k ≤ l.length ∧ l.length ≤ cap ∧ l.length ≤ 120 ∧ X.size ≤ 4611686018427387904 from ⟨hs4, hs5, hs6, hs7, hs8, hk, hcap, hb, by omega⟩)
 clear hE hK hT hb hc hb1 hx1 hW1 hQ hxs hk hBG hkl hc' hlx hly hbx hby hx hy hux huy sx sy hs4 hs5 hs6 hs7 hs8 hcap
 go_enter Tryz.func7, Tryz.ntmps7
 go_wp2_with fail
 rw [← HW1.out]
 refine HWK.out.mono ?_
 rintro e' w1 ⟨rfl, hb1⟩
 have hX1 := HX1.out.below hb1
 have x0 := hX1.cell 0 (v := .int .i64 T) rfl
 have x1 := hX1.cell 1 (v := .int .i64 V) rfl
 have x2 := hX1.cell 2 (v := .int .i64 S) rfl
 have x3 := hX1.cell 3 (v := .slice a l.length cap) rfl
 have HX := hid hX1
 have HB := hid (ext_trans HB1.out hb1)
 clear hb1 hX1 HX1 HB1 HW1 HWK
 go_wp2_with fail
 refine (HEN.out _ HB.out).mono ?_
 rintro e' w2 ⟨rfl, hb2⟩
 have hX1 := HX.out.below hb2
 have x0 := hX1.cell 0 (v := .int .i64 T) rfl
 have x1 := hX1.cell 1 (v := .int .i64 V) rfl
 have x2 := hX1.cell 2 (v := .int .i64 S) rfl
 have x3 := hX1.cell 3 (v := .slice a l.length cap) rfl
 have y3 := (hX1.below (ext_alloc (ext_refl w2) (.cells #[.int .i64 T, .int .i64 V, .int .i64 S, .slice a l.length cap] 25))).cell 3 (v := .slice a l.length cap) rfl
 have HX := hid hX1
 have HB := hid (ext_trans HB.out hb2)
 clear hb2 hX1
 have v1 : (0 : Int) ≤ (k : Int) := by omega
 have v2 : (k : Int) ≤ (cap : Int) := by have := HS.out; omega
 have v3 : k ≤ cap := by omega
 go_wp2_with fail
 refine (HEN'.out _ (ext_trans HB.out (ext_alloc (ext_refl w2) _))).mono ?_
 rintro e' w3 ⟨rfl, hb3⟩
 have x3 := ((HX.out.below (ext_alloc (ext_refl w2) (.cells #[.int .i64 T, .int .i64 V, .int .i64 S, .slice a k cap] 25))).below hb3).cell 3 (v := .slice a l.length cap) rfl
 have HX3 := hid ((HX.out.below (ext_alloc (ext_refl w2) (.cells #[.int .i64 T, .int .i64 V, .int .i64 S, .slice a k cap] 25))).below hb3)
 have HB := hid (ext_trans (ext_trans HB.out (ext_alloc (ext_refl w2) (.cells #[.int .i64 T, .int .i64 V, .int .i64 S, .slice a k cap] 25))) hb3)
 clear hb3 x0 x1 x2 y3 HX
 go_wp2_with fail
 refine (HUX.out _).mono ?_
 rintro e' w4 ⟨rfl, hb4⟩
 have HX4 := hid (HX3.out.below hb4)
 have HB := hid (ext_trans HB.out hb4)
 clear hb4 HX3 x3
 go_wp2_with fail
 refine (HUY.out _).mono ?_
 rintro e' w5 ⟨rfl, hb5⟩
 have HX5 := hid (HX4.out.below hb5)
 have HB := hid (ext_trans HB.out hb5)
 clear hb5 HX4 v1 v2 v3 HUX HUY HEN HEN' g1 g2 hkr u1 u2 u3 u4 u5
 obtain ⟨p1, p2, p3, p4, p5, p6, p7, p8, p9⟩ := HS.out
 have q1 : decide ((X.size : Int) < 4) = false := by rw [decide_eq_false_iff_not]; omega
 have q2 : decide (X.size < 4) = false := by rw [decide_eq_false_iff_not]; omega
 have q3 : decide ((Y.size : Int) < 4) = false := by rw [decide_eq_false_iff_not]; omega
 have q4 : decide (Y.size < 4) = false := by rw [decide_eq_false_iff_not]; omega
 have q5 : decide ((X.size : Int) < (Y.size : Int)) = false := by rw [decide_eq_false_iff_not]; omega
 have q6 : decide (X.size < Y.size) = false := by rw [decide_eq_false_iff_not]; omega
 have q7 : (3 : Int) ≤ (X.size : Int) := by omega
 have q8 : (3 : Int) ≤ (Y.size : Int) := by omega
 have q9 : (4 : Int) ≤ (Y.size : Int) := by omega
 have q10 : (Y.size : Int) ≤ (X.size : Int) := by omega
 have q11 : 3 ≤ X.size := by omega
 have q12 : 3 ≤ Y.size := by omega
 have q13 : (4 : Int) ≤ (X.size : Int) := by omega
 clear p3 p4 p5 p6 p7 p8 p9
 go_wp2_with fail
 go_quiet (fail)
 have x3 := (HX5.out.below (ext_drewN (ext_refl w5) nq)).cell 3 (v := .slice a l.length cap) rfl
 have HB := hid (ext_trans HB.out (ext_drewN (ext_refl w5) nq))
 clear q1 q2 q3 q4 q5 q6 q7 q8 q9 q10 q11 q12 q13 e1 e2 HX5
 obtain ⟨p1, p2, p3, p4, p5, p6, p7, p8, p9⟩ := HS.out
 obtain ⟨m, hm⟩ : ∃ m, m = l.length - k := ⟨_, rfl⟩
 rw [← hm] at p4 p5
 have q1 : IntKind.i64.wrap ((l.length : Int) - (k : Int)) = (m : Int) := by rw [IntWalk.i64_in _ (by omega)]; omega
 have q2 : IntKind.i64.wrap ((Y.size : Int) + (m : Int)) = (Y.size : Int) + (m : Int) := IntWalk.i64_in _ (by omega)
 have q3 : IntKind.i64.wrap (12 * (m : Int)) = 12 * (m : Int) := IntWalk.i64_in _ (by omega)
 have q4 : IntKind.i64.wrap ((Y.size : Int) + 12 * (m : Int)) = (Y.size : Int) + 12 * (m : Int) := IntWalk.i64_in _ (by omega)
 have q5 : decide ((Y.size : Int) + (m : Int) ≤ (X.size : Int)) = true := by rw [decide_eq_true_iff]; omega
 have q6 : decide ((X.size : Int) ≤ (Y.size : Int) + 12 * (m : Int)) = true := by rw [decide_eq_true_iff]; omega
 have q7 : (Y.size : Int) + (m : Int) ≤ (X.size : Int) := by omega
 have q8 : (X.size : Int) ≤ (Y.size : Int) + 12 * (m : Int) := by omega
 clear p1 p2 p3 p4 p5 p6 p7 p8 p9 hm
 go_wp2_with fail
 rw [HQ.out]
 exact ⟨rfl, HB.out⟩
theorem traceBegun_any (T V S : Int) (a : Option Addr) (l : List Ev) (cap : Nat) (n : Int) (w : World) (hE : EvsAt w a l) (hcap : l.length ≤ cap) (hK : KindsAt w) (hT : TabOk w) : Calls Tryz.prog 7 #[trA T V S a l.length cap, .int .i64 n] w fun e' w' => e' = .returned (.bool true) ∧ Below w.heap.size w w' := by
 by_cases hb : l.length ≤ 120
 ·by_cases hc : (checkT T V S l).2 = 0
  ·exact traceBegun_good T V S a l cap n w hE hcap hK hT hb hc
  ·exact traceBegun_bad T V S a l cap n w hE hK hT hb hc
 ·exact traceBegun_great T V S a l cap n w hK hT (by omega)
end Go.Proofs.YtnblhodhkifeeaaGreatDoor
-- halved
