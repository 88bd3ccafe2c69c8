/-
  Walk: (*Coder).Write where the bound is met just so, or is not (printed by gen_dw.py).
-/
import Derived.Test.YtokkafiphchejaaDoorDeG3
namespace Go.Proofs.YtokkafiphchejaaDoor
set_option linter.unusedVariables false
set_option linter.unusedSimpArgs false
set_option linter.unusedVariables false
open Go Go.RowKit
set_option maxRecDepth 100000 in
set_option maxHeartbeats 4000000 in
theorem raw_full (b : Nat) (most : Int) (bs : List Nat) (base : Nat) (v : Value) (s : ByteArray) (W : World) (h : WrtO W b most bs base v) (hs : s.size ≤ 1000) (hl : bs.length ≤ 16777216) (hm : 0 ≤ most ∧ most ≤ 16777216) (hfit : most - (bs.length : Int) < (s.size : Int)) :
    Calls Tryd.prog 36 #[.pointer (some ⟨b, 0, none⟩), .string s] W fun e' W' => e' = .returned (.int .i64 40) ∧ Below W.heap.size W W' := by
  have d0 := h.blk.cell 0 (v := .int .i64 most) rfl
  have d1 := h.blk.cell 1 (v := v) rfl
  have hform : (v = .slice none 0 0 ∧ bs.length = 0) ∨ ∃ g cap, v = .slice (some ⟨g, 0, none⟩) bs.length cap := by
    rcases h.own.2 with ⟨h1, h2⟩ | ⟨g, cap, cur, hv, -⟩
    · exact Or.inl ⟨h1, h2⟩
    · exact Or.inr ⟨g, cap, hv⟩
  obtain ⟨Q, hQ⟩ : ∃ Q : Ending → World → Prop, Q = fun e' W' => e' = .returned (.int .i64 40) ∧ Below W.heap.size W W' := ⟨_, rfl⟩
  rw [← hQ]
  have HQ := hid hQ
  clear hQ h
  rcases hform with ⟨hv, hn⟩ | ⟨g, cap, hv⟩
  · rw [hv] at d1
    have j4 : wrap64 most = most := by unfold wrap64; omega
    have j5 : IntKind.i64.wrap most = most := IntWalk.i64_in _ (by omega)
    have j6 : decide (most < (s.size : Int)) = true := by rw [decide_eq_true_iff]; omega
    clear hv hn hs hl hm hfit
    go_enter Tryd.func36, Tryd.ntmps36
    go_wp2_with fail
    go_quiet (fail)
    go_wp2_with fail
    rw [HQ.out]
    exact ⟨rfl, ext_drewN (ext_refl W) nq⟩
  · rw [hv] at d1
    have j1 : IntKind.i64.wrap (most - (bs.length : Int)) = most - (bs.length : Int) := IntWalk.i64_in _ (by omega)
    have j2 : decide (most - (bs.length : Int) < (s.size : Int)) = true := by rw [decide_eq_true_iff]; omega
    clear hv hs hl hm hfit
    go_enter Tryd.func36, Tryd.ntmps36
    go_wp2_with fail
    go_quiet (fail)
    go_wp2_with fail
    rw [HQ.out]
    exact ⟨rfl, ext_drewN (ext_refl W) nq⟩
set_option maxRecDepth 100000 in
set_option maxHeartbeats 4000000 in
theorem write_fit (T V S : Int) (c : Cdr) (kind tx at_ v x why : Int) (th : Nat) (C b : Nat) (most : Int) (bs : List Nat) (base : Nat) (u : Value) (W : World) (hok : EvOk ⟨kind, (th : Int), tx, at_, v, x, why⟩) (hC : Blk W C (cdrA T V S c) 74) (hKd : KindsAt W) (hT : 1 ≤ T ∧ T ≤ 6) (hV : 1 ≤ V ∧ V ≤ 32) (hS : 1 ≤ S ∧ S ≤ 32)
    (hc : OkC T c) (ht : tellsC T V S c ⟨kind, (th : Int), tx, at_, v, x, why⟩ = true) (hw : WrtO W b most bs base u) (hCb : C ≠ b) (hCu : ∀ g, u.ownBlock = some g → g ≠ C) (hbase : base ≤ W.heap.size) (hl : bs.length ≤ 16777216) (hm : 0 ≤ most ∧ most ≤ 16777216) (hfit : ((bs.length + (bytesC T c ⟨kind, (th : Int), tx, at_, v, x, why⟩).length : Nat) : Int) ≤ most) :
    Calls Tryd.prog 12 #[.pointer (some ⟨C, 0, none⟩), .pointer (some ⟨b, 0, none⟩), evA ⟨kind, (th : Int), tx, at_, v, x, why⟩] W (WriteP T V S (knowsC c ⟨kind, (th : Int), tx, at_, v, x, why⟩) C b most (bs ++ bytesC T c ⟨kind, (th : Int), tx, at_, v, x, why⟩) base u W) := by
  have HTELL := hid (fun W' (h : Below W.heap.size W W') => tells_any T V S c kind tx at_ v x why th C W' hok (hC.below h) (hKd.below h) hT hV hS)
  rw [ht] at HTELL
  have hbe := Blk.new W #[.int .u8 kind, .int .i64 (th : Int), .int .i64 tx, .int .i64 at_, .int .i64 v, .int .i64 x, .int .u8 why] 33
  have HBE := hid hbe
  have f0 := hbe.cell 0 (v := .int .u8 kind) rfl
  have HLOW : Hid (Below W.heap.size W (W.alloc (.cells #[.int .u8 kind, .int .i64 (th : Int), .int .i64 tx, .int .i64 at_, .int .i64 v, .int .i64 x, .int .u8 why] 33))) := hid (ext_alloc (ext_refl _) _)
  have HT := hid ht
  have HCC := hid hC
  have HC0 := hid hc
  have HW := hid hw
  have HM := hid hm
  have HFIT := hid hfit
  have HLL := hid hl
  have HSZ := hid (show C < W.heap.size ∧ base ≤ W.heap.size ∧ b < base ∧ C ≠ b from ⟨hC.lt, hbase, hw.lt, hCb⟩)
  have HCU := hid hCu
  have HOK := hid hok
  have HTV := hid (show (1 ≤ T ∧ T ≤ 6) ∧ (1 ≤ V ∧ V ≤ 32) ∧ (1 ≤ S ∧ S ≤ 32) from ⟨hT, hV, hS⟩)
  dsimp only [evA] at HTELL ⊢
  clear hbe f0 ht hC hc hw hm hfit hl hCu hbase hCb hok hT hV hS
  obtain ⟨Q, hQ⟩ : ∃ Q, Q = WriteP T V S (knowsC c ⟨kind, (th : Int), tx, at_, v, x, why⟩) C b most (bs ++ bytesC T c ⟨kind, (th : Int), tx, at_, v, x, why⟩) base u W := ⟨_, rfl⟩
  rw [← hQ]
  have HQ := hid hQ
  clear hQ
  go_enter Tryd.func12, Tryd.ntmps12
  go_wp2_with fail
  refine (HTELL.out _ HLOW.out).mono ?_
  rintro e' W2 ⟨rfl, hb2⟩
  have hbe2 := HBE.out.below hb2
  have e0 := hbe2.cell 0 (v := .int .u8 kind) rfl
  have e1 := hbe2.cell 1 (v := .int .i64 (th : Int)) rfl
  have e2 := hbe2.cell 2 (v := .int .i64 tx) rfl
  have e3 := hbe2.cell 3 (v := .int .i64 at_) rfl
  have e4 := hbe2.cell 4 (v := .int .i64 v) rfl
  have e5 := hbe2.cell 5 (v := .int .i64 x) rfl
  have e6 := hbe2.cell 6 (v := .int .u8 why) rfl
  have HBE2 := hid hbe2
  have HB2 := hid (ext_trans HLOW.out hb2)
  have HB2' := hid hb2
  have x0 := cell_alloc (x := .cells #[.string ⟨#[]⟩] 9) e0
  have x1 := cell_alloc (x := .cells #[.string ⟨#[]⟩] 9) e1
  have x2 := cell_alloc (x := .cells #[.string ⟨#[]⟩] 9) e2
  have x3 := cell_alloc (x := .cells #[.string ⟨#[]⟩] 9) e3
  have x4 := cell_alloc (x := .cells #[.string ⟨#[]⟩] 9) e4
  have x5 := cell_alloc (x := .cells #[.string ⟨#[]⟩] 9) e5
  have x6 := cell_alloc (x := .cells #[.string ⟨#[]⟩] 9) e6
  clear e0 e1 e2 e3 e4 e5 e6 hbe2 hb2 HTELL
  obtain ⟨W3, hW3⟩ : ∃ W3, W3 = (W2.alloc (.cells #[.string ⟨#[]⟩] 9)).alloc (.cells (lineA C ⟨kind, (th : Int), tx, at_, v, x, why⟩ .nilFunc .nilFunc (clo 30 #[])) 83) := ⟨_, rfl⟩
  have hL3 : Blk W3 (W2.heap.size + 1) (lineA C ⟨kind, (th : Int), tx, at_, v, x, why⟩ .nilFunc .nilFunc (clo 30 #[])) 83 := by rw [hW3]; exact Blk.new' _ _ _ (by (first | exact Array.size_push _ | exact (Array.size_push _).symm))
  have hS3 : Blk W3 W2.heap.size #[.string ⟨#[]⟩] 9 := by rw [hW3]; exact (Blk.new W2 #[.string ⟨#[]⟩] 9).below (ext_alloc (ext_refl _) _)
  have hB3 : Below W2.heap.size W2 W3 := by rw [hW3]; exact ext_alloc (ext_alloc (ext_refl _) _) _
  have HS3 := hid hS3
  have HB3 := hid hB3
  have HL3 := hid hL3
  have p8 := hL3.cell 8 (v := .nilFunc) rfl
  have z8 := hL3.free 8
  have hL4 := hL3.set 8 (clo 31 #[.pointer (some ⟨W2.heap.size, 0, none⟩)])
  have p9 := hL4.cell 9 (v := .nilFunc) rfl
  have z9 := hL4.free 9
  clear hL3 hS3 hB3 hL4
  unfold lineA at hW3
  unfold clo at hW3 p9 z9
  have HW3 := hid hW3
  clear hW3
  go_wp2_with (rw [← HW3.out]; go_simp)
  clear p8 z8 p9 z9 x0 x1 x2 x3 x4 x5 x6
  obtain ⟨W5, hW5⟩ : ∃ W5, W5 = (W3.setCell ⟨W2.heap.size + 1, 8, none⟩ (clo 31 #[.pointer (some ⟨W2.heap.size, 0, none⟩)])).setCell ⟨W2.heap.size + 1, 9, none⟩ (clo 33 #[.pointer (some ⟨W2.heap.size, 0, none⟩)]) := ⟨_, rfl⟩
  have hL5 : Blk W5 (W2.heap.size + 1) (lineA C ⟨kind, (th : Int), tx, at_, v, x, why⟩ (clo 31 #[.pointer (some ⟨W2.heap.size, 0, none⟩)]) (clo 33 #[.pointer (some ⟨W2.heap.size, 0, none⟩)]) (clo 30 #[])) 83 := by rw [hW5]; exact (HL3.out.set 8 _).set 9 _
  have hS5 : Blk W5 W2.heap.size #[.string ⟨#[]⟩] 9 := by rw [hW5]; exact (HS3.out.set_other _ _ (by show W2.heap.size ≠ W2.heap.size + 1; omega)).set_other _ _ (by show W2.heap.size ≠ W2.heap.size + 1; omega)
  have hB5 : Below W2.heap.size W2 W5 := by rw [hW5]; exact (HB3.out.setCell (p := ⟨W2.heap.size + 1, 8, none⟩) (by show W2.heap.size ≤ W2.heap.size + 1; omega) _).setCell (p := ⟨W2.heap.size + 1, 9, none⟩) (by show W2.heap.size ≤ W2.heap.size + 1; omega) _
  have hW5' := hW5
  unfold clo at hW5'
  rw [← hW5']
  clear hW5 hW5' HW3 HL3 HS3 HB3
  obtain ⟨sb, hsb⟩ : ∃ sb, sb = W2.heap.size := ⟨_, rfl⟩
  have hB25 := ext_trans HB2.out hB5
  have hC5 := HCC.out.below hB25
  have hok2 := HOK.out
  have ht1 := HT.out
  unfold tellsC at ht1
  rw [Bool.and_eq_true] at ht1
  obtain ⟨hm1, hm2⟩ := ht1
  obtain ⟨hs, ⟨k1, k2, hw, t1, t2, xx1, xx2, v1, v2, a1, a2⟩, hbb⟩ := may_sizes' hm1
  obtain ⟨f1, f2, f3, f4⟩ := first_ok (T := T) (k := kind) (th := (th : Int)) (last := c.last) ⟨hs.1, hs.2.1⟩ ⟨k1, k2⟩ ⟨t1, t2⟩ HC0.out.last
  have OV := over_any (wClOk W2.heap.size) T V S c kind tx at_ v x why th [] (W2.heap.size + 1) C W5 hL5 hC5 ⟨⟨#[]⟩, rfl, hS5⟩ (by simp) (by have := HSZ.out; have := HB2.out.size; simp; omega) (by have := HSZ.out; have := HB2.out.size; omega) (by unfold WOk; simp) HTV.out.1 HTV.out.2.1 HTV.out.2.2 ⟨k1, k2⟩ t2 HC0.out.last (by intro k hk; simp at hk; rw [hk]; exact hS5.lt) (by unfold WPx; omega) ⟨f1, f2⟩ (fun t' h1 h2 => by
    dsimp only [wCl] at h1 ⊢
    rw [f3]
    rw [f4] at h1
    have : t' = th := by omega
    subst this
    exact w_meth _ HC0.out HT.out)
  rw [line_write HC0.out HT.out hok2.2.2.2.2.2.1] at OV
  obtain ⟨bl1, bl2⟩ := bytes_len (V := V) (S := S) HC0.out HT.out
  have HBL := hid (show 1 ≤ (bytesC T c ⟨kind, (th : Int), tx, at_, v, x, why⟩).length ∧ (bytesC T c ⟨kind, (th : Int), tx, at_, v, x, why⟩).length ≤ 12 from ⟨bl1, bl2⟩)
  have HAT := hid (w_ats HT.out)
  have HB25 := hid hB25
  have HSL := hid hS5.lt
  have HLS := hid (show W2.heap.size + 1 < W5.heap.size from hL5.lt)
  have HB5 := hid hB5
  have HOV := hid OV
  clear OV hB25 hB5 hL5 hS5 hC5 hok2 hm1 hm2 hs k1 k2 hw t1 t2 xx1 xx2 v1 v2 a1 a2 hbb f1 f2 f3 f4 bl1 bl2 hsb
  refine HOV.out.mono ?_
  rintro e' W6 ⟨rfl, ⟨Z, hZ, hBZ⟩, hT6, -⟩
  clear HOV
  have hB56 : Below W2.heap.size W5 W6 := hT6.below (by intro k hk; simp at hk; omega) (by have := HSL.out; omega)
  have hB6 : Below W.heap.size W W6 := ext_trans HB2.out (HB5.out.trans hB56)
  have hz0 := hBZ.cell 0 (v := .string Z) rfl
  have hZl : Z.size = (bytesC T c ⟨kind, (th : Int), tx, at_, v, x, why⟩).length := by rw [← byt_len, hZ]; rfl
  have RAW := raw_any b most bs base u Z W6 (HW.out.below hB6) (by have := HBL.out; omega) (by have := HBL.out; omega) HLL.out HM.out (by have := HFIT.out; omega) (by have := HSZ.out; have := hB6.size; omega)
  have HRAW := hid RAW
  have HZ := hid hZ
  have HB6 := hid hB6
  have HBE6 := hid (HBE2.out.below (ext_trans (Below.refl _ _) (HB5.out.trans hB56)))
  clear RAW hZ hB6 hB56 hT6 hBZ hZl HB5 HSL HLS HB25 HBL HFIT HM HLL HBE2
  go_wp2_with fail
  refine HRAW.out.mono ?_
  rintro e' W7 ⟨rfl, u', hwr, hown, hT7⟩
  have hnC : C ∉ b :: u.ownBlock.toList := by
    intro hm
    rcases List.mem_cons.1 hm with e | e
    · exact HSZ.out.2.2.2 e
    · exact HCU.out C (by simpa using e) rfl
  have hbe7 := hT7.blk (by
    intro hm
    have hs := HSZ.out
    rcases List.mem_cons.1 hm with e | e
    · omega
    · have := (HW.out.own.lt _ (by simpa using e)).2
      omega) HBE6.out
  have e0 := hbe7.cell 0 (v := .int .u8 kind) rfl
  have e1 := hbe7.cell 1 (v := .int .i64 (th : Int)) rfl
  have e2 := hbe7.cell 2 (v := .int .i64 tx) rfl
  have e3 := hbe7.cell 3 (v := .int .i64 at_) rfl
  have e4 := hbe7.cell 4 (v := .int .i64 v) rfl
  have e5 := hbe7.cell 5 (v := .int .i64 x) rfl
  have e6 := hbe7.cell 6 (v := .int .u8 why) rfl
  have hC7 := hT7.blk hnC (HCC.out.below HB6.out)
  have HKN := hid (knows_any T V S c kind tx at_ v x why th at_.toNat C W7 hC7 HAT.out.1 HAT.out.2.1 HAT.out.2.2)
  have HWR := hid hwr
  have HOWN := hid hown
  have HT7 := hid hT7
  clear hnC hC7 hbe7 hwr hown hT7
  go_wp2_with fail
  refine HKN.out.mono ?_
  rintro e' W8 ⟨rfl, hC8, hT8⟩
  go_wp2_with fail
  rw [HQ.out]
  have hZb := HZ.out
  rw [List.nil_append] at hZb
  rw [hZb] at HWR
  have hb78 : W.heap.size ≤ W6.heap.size := HB6.out.size
  refine ⟨rfl, hC8, u', HWR.out.turn hT8 (by have := HSZ.out; simp; omega) (fun g hg => by
      have hs := HSZ.out
      simp only [List.mem_cons, List.not_mem_nil, or_false]
      rcases HOWN.out with e | ⟨g', e, h⟩
      · exact HCU.out g (by rw [← e]; exact hg)
      · rw [hg] at e; cases e; omega), ?_, ?_⟩
  · rcases HOWN.out with e | ⟨g, hg, h⟩
    · exact Or.inl e
    · exact Or.inr ⟨g, hg, by omega⟩
  · exact ((Turn.of_below HB6.out).trans (HT7.out.mono (by simp; intro a h; exact Or.inr (Or.inr h)))).trans (hT8.mono (by simp))
set_option maxRecDepth 100000 in
set_option maxHeartbeats 4000000 in
theorem write_full (T V S : Int) (c : Cdr) (kind tx at_ v x why : Int) (th : Nat) (C b : Nat) (most : Int) (bs : List Nat) (base : Nat) (u : Value) (W : World) (hok : EvOk ⟨kind, (th : Int), tx, at_, v, x, why⟩) (hC : Blk W C (cdrA T V S c) 74) (hKd : KindsAt W) (hT : 1 ≤ T ∧ T ≤ 6) (hV : 1 ≤ V ∧ V ≤ 32) (hS : 1 ≤ S ∧ S ≤ 32)
    (hc : OkC T c) (ht : tellsC T V S c ⟨kind, (th : Int), tx, at_, v, x, why⟩ = true) (hw : WrtO W b most bs base u) (hCb : C ≠ b) (hCu : ∀ g, u.ownBlock = some g → g ≠ C) (hbase : base ≤ W.heap.size) (hl : bs.length ≤ 16777216) (hm : 0 ≤ most ∧ most ≤ 16777216) (hfit : most < ((bs.length + (bytesC T c ⟨kind, (th : Int), tx, at_, v, x, why⟩).length : Nat) : Int)) :
    Calls Tryd.prog 12 #[.pointer (some ⟨C, 0, none⟩), .pointer (some ⟨b, 0, none⟩), evA ⟨kind, (th : Int), tx, at_, v, x, why⟩] W (fun e' W' => e' = .returned (.int .i64 40) ∧ Below W.heap.size W W') := by
  have HTELL := hid (fun W' (h : Below W.heap.size W W') => tells_any T V S c kind tx at_ v x why th C W' hok (hC.below h) (hKd.below h) hT hV hS)
  rw [ht] at HTELL
  have hbe := Blk.new W #[.int .u8 kind, .int .i64 (th : Int), .int .i64 tx, .int .i64 at_, .int .i64 v, .int .i64 x, .int .u8 why] 33
  have HBE := hid hbe
  have f0 := hbe.cell 0 (v := .int .u8 kind) rfl
  have HLOW : Hid (Below W.heap.size W (W.alloc (.cells #[.int .u8 kind, .int .i64 (th : Int), .int .i64 tx, .int .i64 at_, .int .i64 v, .int .i64 x, .int .u8 why] 33))) := hid (ext_alloc (ext_refl _) _)
  have HT := hid ht
  have HCC := hid hC
  have HC0 := hid hc
  have HW := hid hw
  have HM := hid hm
  have HFIT := hid hfit
  have HLL := hid hl
  have HSZ := hid (show C < W.heap.size ∧ base ≤ W.heap.size ∧ b < base ∧ C ≠ b from ⟨hC.lt, hbase, hw.lt, hCb⟩)
  have HCU := hid hCu
  have HOK := hid hok
  have HTV := hid (show (1 ≤ T ∧ T ≤ 6) ∧ (1 ≤ V ∧ V ≤ 32) ∧ (1 ≤ S ∧ S ≤ 32) from ⟨hT, hV, hS⟩)
  dsimp only [evA] at HTELL ⊢
  clear hbe f0 ht hC hc hw hm hfit hl hCu hbase hCb hok hT hV hS
  obtain ⟨Q, hQ⟩ : ∃ Q : Ending → World → Prop, Q = fun e' W' => e' = .returned (.int .i64 40) ∧ Below W.heap.size W W' := ⟨_, rfl⟩
  rw [← hQ]
  have HQ := hid hQ
  clear hQ
  go_enter Tryd.func12, Tryd.ntmps12
  go_wp2_with fail
  refine (HTELL.out _ HLOW.out).mono ?_
  rintro e' W2 ⟨rfl, hb2⟩
  have hbe2 := HBE.out.below hb2
  have e0 := hbe2.cell 0 (v := .int .u8 kind) rfl
  have e1 := hbe2.cell 1 (v := .int .i64 (th : Int)) rfl
  have e2 := hbe2.cell 2 (v := .int .i64 tx) rfl
  have e3 := hbe2.cell 3 (v := .int .i64 at_) rfl
  have e4 := hbe2.cell 4 (v := .int .i64 v) rfl
  have e5 := hbe2.cell 5 (v := .int .i64 x) rfl
  have e6 := hbe2.cell 6 (v := .int .u8 why) rfl
  have HBE2 := hid hbe2
  have HB2 := hid (ext_trans HLOW.out hb2)
  have HB2' := hid hb2
  have x0 := cell_alloc (x := .cells #[.string ⟨#[]⟩] 9) e0
  have x1 := cell_alloc (x := .cells #[.string ⟨#[]⟩] 9) e1
  have x2 := cell_alloc (x := .cells #[.string ⟨#[]⟩] 9) e2
  have x3 := cell_alloc (x := .cells #[.string ⟨#[]⟩] 9) e3
  have x4 := cell_alloc (x := .cells #[.string ⟨#[]⟩] 9) e4
  have x5 := cell_alloc (x := .cells #[.string ⟨#[]⟩] 9) e5
  have x6 := cell_alloc (x := .cells #[.string ⟨#[]⟩] 9) e6
  clear e0 e1 e2 e3 e4 e5 e6 hbe2 hb2 HTELL
  obtain ⟨W3, hW3⟩ : ∃ W3, W3 = (W2.alloc (.cells #[.string ⟨#[]⟩] 9)).alloc (.cells (lineA C ⟨kind, (th : Int), tx, at_, v, x, why⟩ .nilFunc .nilFunc (clo 30 #[])) 83) := ⟨_, rfl⟩
  have hL3 : Blk W3 (W2.heap.size + 1) (lineA C ⟨kind, (th : Int), tx, at_, v, x, why⟩ .nilFunc .nilFunc (clo 30 #[])) 83 := by rw [hW3]; exact Blk.new' _ _ _ (by (first | exact Array.size_push _ | exact (Array.size_push _).symm))
  have hS3 : Blk W3 W2.heap.size #[.string ⟨#[]⟩] 9 := by rw [hW3]; exact (Blk.new W2 #[.string ⟨#[]⟩] 9).below (ext_alloc (ext_refl _) _)
  have hB3 : Below W2.heap.size W2 W3 := by rw [hW3]; exact ext_alloc (ext_alloc (ext_refl _) _) _
  have HS3 := hid hS3
  have HB3 := hid hB3
  have HL3 := hid hL3
  have p8 := hL3.cell 8 (v := .nilFunc) rfl
  have z8 := hL3.free 8
  have hL4 := hL3.set 8 (clo 31 #[.pointer (some ⟨W2.heap.size, 0, none⟩)])
  have p9 := hL4.cell 9 (v := .nilFunc) rfl
  have z9 := hL4.free 9
  clear hL3 hS3 hB3 hL4
  unfold lineA at hW3
  unfold clo at hW3 p9 z9
  have HW3 := hid hW3
  clear hW3
  go_wp2_with (rw [← HW3.out]; go_simp)
  clear p8 z8 p9 z9 x0 x1 x2 x3 x4 x5 x6
  obtain ⟨W5, hW5⟩ : ∃ W5, W5 = (W3.setCell ⟨W2.heap.size + 1, 8, none⟩ (clo 31 #[.pointer (some ⟨W2.heap.size, 0, none⟩)])).setCell ⟨W2.heap.size + 1, 9, none⟩ (clo 33 #[.pointer (some ⟨W2.heap.size, 0, none⟩)]) := ⟨_, rfl⟩
  have hL5 : Blk W5 (W2.heap.size + 1) (lineA C ⟨kind, (th : Int), tx, at_, v, x, why⟩ (clo 31 #[.pointer (some ⟨W2.heap.size, 0, none⟩)]) (clo 33 #[.pointer (some ⟨W2.heap.size, 0, none⟩)]) (clo 30 #[])) 83 := by rw [hW5]; exact (HL3.out.set 8 _).set 9 _
  have hS5 : Blk W5 W2.heap.size #[.string ⟨#[]⟩] 9 := by rw [hW5]; exact (HS3.out.set_other _ _ (by show W2.heap.size ≠ W2.heap.size + 1; omega)).set_other _ _ (by show W2.heap.size ≠ W2.heap.size + 1; omega)
  have hB5 : Below W2.heap.size W2 W5 := by rw [hW5]; exact (HB3.out.setCell (p := ⟨W2.heap.size + 1, 8, none⟩) (by show W2.heap.size ≤ W2.heap.size + 1; omega) _).setCell (p := ⟨W2.heap.size + 1, 9, none⟩) (by show W2.heap.size ≤ W2.heap.size + 1; omega) _
  have hW5' := hW5
  unfold clo at hW5'
  rw [← hW5']
  clear hW5 hW5' HW3 HL3 HS3 HB3
  obtain ⟨sb, hsb⟩ : ∃ sb, sb = W2.heap.size := ⟨_, rfl⟩
  have hB25 := ext_trans HB2.out hB5
  have hC5 := HCC.out.below hB25
  have hok2 := HOK.out
  have ht1 := HT.out
  unfold tellsC at ht1
  rw [Bool.and_eq_true] at ht1
  obtain ⟨hm1, hm2⟩ := ht1
  obtain ⟨hs, ⟨k1, k2, hw, t1, t2, xx1, xx2, v1, v2, a1, a2⟩, hbb⟩ := may_sizes' hm1
  obtain ⟨f1, f2, f3, f4⟩ := first_ok (T := T) (k := kind) (th := (th : Int)) (last := c.last) ⟨hs.1, hs.2.1⟩ ⟨k1, k2⟩ ⟨t1, t2⟩ HC0.out.last
  have OV := over_any (wClOk W2.heap.size) T V S c kind tx at_ v x why th [] (W2.heap.size + 1) C W5 hL5 hC5 ⟨⟨#[]⟩, rfl, hS5⟩ (by simp) (by have := HSZ.out; have := HB2.out.size; simp; omega) (by have := HSZ.out; have := HB2.out.size; omega) (by unfold WOk; simp) HTV.out.1 HTV.out.2.1 HTV.out.2.2 ⟨k1, k2⟩ t2 HC0.out.last (by intro k hk; simp at hk; rw [hk]; exact hS5.lt) (by unfold WPx; omega) ⟨f1, f2⟩ (fun t' h1 h2 => by
    dsimp only [wCl] at h1 ⊢
    rw [f3]
    rw [f4] at h1
    have : t' = th := by omega
    subst this
    exact w_meth _ HC0.out HT.out)
  rw [line_write HC0.out HT.out hok2.2.2.2.2.2.1] at OV
  obtain ⟨bl1, bl2⟩ := bytes_len (V := V) (S := S) HC0.out HT.out
  have HBL := hid (show 1 ≤ (bytesC T c ⟨kind, (th : Int), tx, at_, v, x, why⟩).length ∧ (bytesC T c ⟨kind, (th : Int), tx, at_, v, x, why⟩).length ≤ 12 from ⟨bl1, bl2⟩)
  have HAT := hid (w_ats HT.out)
  have HB25 := hid hB25
  have HSL := hid hS5.lt
  have HLS := hid (show W2.heap.size + 1 < W5.heap.size from hL5.lt)
  have HB5 := hid hB5
  have HOV := hid OV
  clear OV hB25 hB5 hL5 hS5 hC5 hok2 hm1 hm2 hs k1 k2 hw t1 t2 xx1 xx2 v1 v2 a1 a2 hbb f1 f2 f3 f4 bl1 bl2 hsb
  refine HOV.out.mono ?_
  rintro e' W6 ⟨rfl, ⟨Z, hZ, hBZ⟩, hT6, -⟩
  clear HOV
  have hB56 : Below W2.heap.size W5 W6 := hT6.below (by intro k hk; simp at hk; omega) (by have := HSL.out; omega)
  have hB6 : Below W.heap.size W W6 := ext_trans HB2.out (HB5.out.trans hB56)
  have hz0 := hBZ.cell 0 (v := .string Z) rfl
  have hZl : Z.size = (bytesC T c ⟨kind, (th : Int), tx, at_, v, x, why⟩).length := by rw [← byt_len, hZ]; rfl
  have RAW := raw_full b most bs base u Z W6 (HW.out.below hB6) (by have := HBL.out; omega) HLL.out HM.out (by have := HFIT.out; omega)
  have HRAW := hid RAW
  have HZ := hid hZ
  have HB6 := hid hB6
  have HBE6 := hid (HBE2.out.below (ext_trans (Below.refl _ _) (HB5.out.trans hB56)))
  clear RAW hZ hB6 hB56 hT6 hBZ hZl HB5 HSL HLS HB25 HBL HFIT HM HLL HBE2
  go_wp2_with fail
  refine HRAW.out.mono ?_
  rintro e' W7 ⟨rfl, hb7⟩
  go_wp2_with fail
  rw [HQ.out]
  exact ⟨rfl, ext_trans HB6.out hb7⟩
end Go.Proofs.YtokkafiphchejaaDoor
