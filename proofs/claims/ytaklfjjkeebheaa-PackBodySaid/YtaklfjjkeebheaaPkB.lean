/-
  Walk: (pack.reader).expr.
-/
import Derived.Test.YtaklfjjkeebheaaPkO
import Derived.Deep.RegionLaw
namespace Go.Proofs.Ytaklfjjkeebheaa
set_option linter.unusedVariables false
set_option linter.unusedSimpArgs false
set_option linter.unusedVariables false
open Go Go.RowKit
theorem op_u8 (n : Nat) (h : n ≤ 8) : IntKind.u8.wrap (n : Int) = (n : Int) := by simp [IntKind.wrap, IntKind.signed, IntKind.bits]; omega
set_option maxRecDepth 100000 in
set_option maxHeartbeats 4000000 in
theorem expr_err (rb : Nat) (s : ByteArray) (r r1 : Rdr) (k : Nat) (dn : Int) (w : World) (h : RdM w rb s r) (hk : k ≤ 8) (he : r1.err ≠ 0) (hkp : Kept r r1)
    (hD : ∀ W1, RdM W1 rb s r → Calls Try.prog 63 #[.agg #[.pointer (some ⟨rb, 0, none⟩)], .int .i64 1, .int .i64 8, .int .i64 dn] W1 (IntP rb s (k, r1) W1)) :
    Calls Try.prog 51 #[.agg #[.pointer (some ⟨rb, 0, none⟩)], .int .i64 dn] w (ReadG (RdExV exZ) rb s r1 w) := by
  obtain ⟨W1, hW1⟩ : ∃ W1, W1 = (w.alloc (.cells #[.pointer (some ⟨rb, 0, none⟩)] 43)).alloc (.cells #[.int .u8 0, .int .i64 0, .slice none 0 0] 89) := ⟨_, rfl⟩
  have hb1 : Below w.heap.size w W1 := by rw [hW1]; exact ext_alloc (ext_alloc (ext_refl _) _) _
  have hm1 := h.below hb1
  have hbx : Blk W1 w.heap.size #[.pointer (some ⟨rb, 0, none⟩)] 43 := by rw [hW1]; exact (Blk.new _ _ _).alloc _
  have hbo : Blk W1 (w.heap.size + 1) #[.int .u8 0, .int .i64 0, .slice none 0 0] 89 := by rw [hW1]; exact Blk.new' _ _ _ (by simp)
  have hsz : W1.heap.size = w.heap.size + 2 := by rw [hW1]; simp
  have HLT := hid h.lt
  have HD := hid (hD W1 hm1)
  have HK := hid (fun (w' : World) hb => hm1.kept (w' := w') hkp hb)
  have HX := hid hbx
  have HO := hid hbo
  have HSZ := hid hsz
  have HB1 := hid hb1
  have HW1 := hid hW1
  have HE := hid he
  have hop := op_u8 k hk
  have hx0 := hbx.cell 0 (v := .pointer (some ⟨rb, 0, none⟩)) rfl
  clear h hk he hkp hD hb1 hm1 hbx hbo hsz hW1
  go_enter Try.func51, Try.ntmps51
  go_wp2_with fail
  rw [← HW1.out]
  refine HD.out.mono ?_
  rintro e' w2 ⟨rfl, hr2, hT2⟩
  dsimp only at hr2
  have hm2 := HK.out _ hr2
  have hx2 := hT2.blk (by simp; have := HLT.out; omega) HX.out
  have ho2 := hT2.blk (by simp; have := HLT.out; omega) HO.out
  obtain ⟨W3, hW3⟩ : ∃ W3, W3 = w2.alloc (.cells #[.int .u8 (k : Int), .int .i64 0, .slice none 0 0] 89) := ⟨_, rfl⟩
  have hb3 : Below w2.heap.size w2 W3 := by rw [hW3]; exact ext_alloc (ext_refl _) _
  have HBAD := hid (bad_any rb s r1 W3 (hm2.below hb3) true (by simpa using HE.out))
  have HT2 := hid hT2
  have HR2 := hid hr2
  have hx3 := (hx2.below hb3).cell 0 (v := .pointer (some ⟨rb, 0, none⟩)) rfl
  have HO3 := hid (ho2.below hb3)
  have HB3 := hid hb3
  have HW3 := hid hW3
  rw [hW3] at hx3
  clear hT2 hr2 hm2 hx2 ho2 hb3 hW3 hx0
  go_wp2_with fail
  rw [← HW3.out]
  refine HBAD.out.mono ?_
  rintro e' w4 ⟨rfl, hb4⟩
  have ho4 := HO3.out.below hb4
  have HB4 := hid hb4
  have HO4 := hid ho4
  have c0 := ho4.cell 0 (v := .int .u8 0) rfl
  have c1 := ho4.cell 1 (v := .int .i64 0) rfl
  have c2 := ho4.cell 2 (v := .slice none 0 0) rfl
  have z0 := ho4.free 0
  have z1 := ho4.free 1
  have z2 := ho4.free 2
  clear hb4 ho4 hx3
  go_wp2_with fail
  have hF := ((HO4.out.set 0 (.int .u8 0)).set 1 (.int .i64 0)).set 2 (.slice none 0 0)
  have t0 := hF.cell 0 (v := .int .u8 0) rfl
  have t1 := hF.cell 1 (v := .int .i64 0) rfl
  have t2 := hF.cell 2 (v := .slice none 0 0) rfl
  have hT := (((Turn.of_below (l := [rb]) HB1.out).trans HT2.out).trans (Turn.of_below HB3.out)).trans (Turn.of_below HB4.out)
  refine bodyPost_ret (v := .agg #[.int .u8 0, .int .i64 0, .slice none 0 0]) (by simp [results, Try.results51, go_sem, t0, t1, t2]) rfl ?_
  refine ⟨_, rfl, ?_, ((hT.setCell (Or.inr (by simp)) _).setCell (Or.inr (by simp)) _).setCell (Or.inr (by simp)) _, fun w'' _ => RdExV.leaf w'' (by omega) (by omega)⟩
  have hne : rb ≠ w.heap.size + 1 := by have := HLT.out; omega
  exact ((((HR2.out.below HB3.out).below HB4.out).set_other _ _ hne).set_other _ _ hne).set_other _ _ hne
/-- Where an expression is read on: its number is there. -/
structure ExR (w : World) (rb : Nat) (s : ByteArray) (r1 : Rdr) (k : Nat) (w4 : World) (X : Nat) : Prop where
  rd : RdM w4 rb s r1
  x : Blk w4 w.heap.size #[.pointer (some ⟨rb, 0, none⟩)] 43
  o : Blk w4 (w.heap.size + 1) #[.int .u8 0, .int .i64 0, .slice none 0 0] 89
  e : Blk w4 X #[.int .u8 (k : Int), .int .i64 0, .slice none 0 0] 89
  lt : rb < w.heap.size ∧ w.heap.size + 2 ≤ X
  turn : Turn [rb] w w4
theorem expr_leaf {w w4 w5 : World} {rb k X : Nat} {s : ByteArray} {r1 r2 : Rdr} {n : Int} (h : ExR w rb s r1 k w4 X) (hT : Turn [rb] w4 w5) (hr : RdrAt w5 rb s r2.at_ r2.err) (hk : k ≤ 8) (hn : -9223372036854775808 ≤ n ∧ n ≤ 9223372036854775807) :
    ReadG (RdExV (.mk k n [])) rb s r2 w (.returned (.agg #[.int .u8 (k : Int), .int .i64 n, .slice none 0 0])) ((((w5.setCell ⟨X, 1, none⟩ (.int .i64 n)).setCell ⟨w.heap.size + 1, 0, none⟩ (.int .u8 (k : Int))).setCell ⟨w.heap.size + 1, 1, none⟩ (.int .i64 n)).setCell ⟨w.heap.size + 1, 2, none⟩ (.slice none 0 0)) := by
  have hlt := h.lt
  have hT2 := h.turn.trans hT
  refine ⟨_, rfl, ?_, (((hT2.setCell (Or.inr (by dsimp only; omega)) _).setCell (Or.inr (by simp)) _).setCell (Or.inr (by simp)) _).setCell (Or.inr (by simp)) _, fun w'' _ => RdExV.leaf w'' (by omega) hn⟩
  have hne : rb ≠ w.heap.size + 1 := by omega
  have hne2 : rb ≠ X := by omega
  exact (((Blk.set_other hr _ _ hne2).set_other _ _ hne).set_other _ _ hne).set_other _ _ hne
theorem expr_pair {w w4 w5 W6 w7 : World} {rb k X : Nat} {s : ByteArray} {ra r2 : Rdr} {a b : Ex} {p q : Value} {o : Obj} (h4 : X < w4.heap.size) (h5 : ExR w rb s ra k w5 X) (hs5 : w4.heap.size ≤ w5.heap.size) (hb6 : Below w5.heap.size w5 W6) (hT : Turn [rb] W6 w7)
    (hva : ∀ w'', Agree w4.heap.size w5.heap.size w5 w'' → RdExV a w'' (.agg #[.int .u8 a.op, .int .i64 a.n, p])) (hvb : ∀ w'', Agree W6.heap.size w7.heap.size w7 w'' → RdExV b w'' (.agg #[.int .u8 b.op, .int .i64 b.n, q])) (hr : RdrAt w7 rb s r2.at_ r2.err)
    (hg : Blk (w7.alloc o) w7.heap.size #[.int .u8 a.op, .int .i64 a.n, p, .int .u8 b.op, .int .i64 b.n, q] 89) (hk : k ≤ 8) :
    ReadG (RdExV (.mk k 0 [a, b])) rb s r2 w (.returned (.agg #[.int .u8 (k : Int), .int .i64 0, .slice (some ⟨w7.heap.size, 0, none⟩) 2 2])) (((((w7.alloc o).setCell ⟨X, 2, none⟩ (.slice (some ⟨w7.heap.size, 0, none⟩) 2 2)).setCell ⟨w.heap.size + 1, 0, none⟩ (.int .u8 (k : Int))).setCell ⟨w.heap.size + 1, 1, none⟩ (.int .i64 0)).setCell ⟨w.heap.size + 1, 2, none⟩ (.slice (some ⟨w7.heap.size, 0, none⟩) 2 2)) := by
  have hlt := h5.lt
  have hs6 := hb6.size
  have hs7 := hT.size
  have hb8 := ext_alloc (ext_refl w7) o
  have hs8 : (w7.alloc o).heap.size = w7.heap.size + 1 := by simp
  have hT2 : Turn [rb] w (w7.alloc o) := ((h5.turn.trans (Turn.of_below hb6)).trans hT).trans (Turn.of_below hb8)
  have hne : rb ≠ w.heap.size + 1 := by omega
  have hne2 : rb ≠ X := by omega
  have hne3 : w7.heap.size ≠ w.heap.size + 1 := by omega
  have hne4 : w7.heap.size ≠ X := by omega
  refine ⟨_, rfl, ?_, (((hT2.setCell (Or.inr (by dsimp only; omega)) _).setCell (Or.inr (by simp)) _).setCell (Or.inr (by simp)) _).setCell (Or.inr (by simp)) _, fun w'' hw'' => ?_⟩
  · exact ((((hr.below hb8).set_other _ _ hne2).set_other _ _ hne).set_other _ _ hne).set_other _ _ hne
  · simp only [size_setCell] at hw''
    have hset : ∀ lo hi, w.heap.size + 1 < lo → X < lo → Agree lo hi (w7.alloc o) (((((w7.alloc o).setCell ⟨X, 2, none⟩ (.slice (some ⟨w7.heap.size, 0, none⟩) 2 2)).setCell ⟨w.heap.size + 1, 0, none⟩ (.int .u8 (k : Int))).setCell ⟨w.heap.size + 1, 1, none⟩ (.int .i64 0)).setCell ⟨w.heap.size + 1, 2, none⟩ (.slice (some ⟨w7.heap.size, 0, none⟩) 2 2)) :=
      fun lo hi h1 h2 => (((Agree.set _ _ h2).trans (Agree.set _ _ h1)).trans (Agree.set _ _ h1)).trans (Agree.set _ _ h1)
    have g1 := ((((hg.set_other ⟨X, 2, none⟩ (.slice (some ⟨w7.heap.size, 0, none⟩) 2 2) hne4).set_other ⟨w.heap.size + 1, 0, none⟩ (.int .u8 (k : Int)) hne3).set_other ⟨w.heap.size + 1, 1, none⟩ (.int .i64 0) hne3).set_other ⟨w.heap.size + 1, 2, none⟩ (.slice (some ⟨w7.heap.size, 0, none⟩) 2 2) hne3).agree hw'' (by omega) (by omega)
    refine RdExV.two (by omega) (hva w'' ?_) (hvb w'' ?_) g1
    · exact ((((Agree.of_below hb6).trans ((Agree.of_turn hT (by simp; omega)).sub (Nat.le_refl _) hs6)).trans ((Agree.of_below hb8).sub (Nat.le_refl _) (by omega))).trans (hset _ _ (by omega) (by omega))).trans (hw''.sub (by omega) (by omega))
    · exact ((Agree.of_below hb8).trans (hset _ _ (by omega) (by omega))).trans (hw''.sub (by omega) (by omega))
set_option maxRecDepth 100000 in
set_option maxHeartbeats 4000000 in
theorem expr_ok (d rb : Nat) (s : ByteArray) (r r1 : Rdr) (k : Nat) (dn : Int) (w : World) (h : RdM w rb s r) (hk : 1 ≤ k ∧ k ≤ 8) (he : r1.err = 0) (hkp : Kept r r1) (hdn : IntKind.i64.wrap (dn + 1) = ((7 - d : Nat) : Int))
    (hD : ∀ W1, RdM W1 rb s r → Calls Try.prog 63 #[.agg #[.pointer (some ⟨rb, 0, none⟩)], .int .i64 1, .int .i64 8, .int .i64 dn] W1 (IntP rb s (k, r1) W1))
    (ih : ∀ (r : Rdr) (w : World), RdM w rb s r → Calls Try.prog 51 #[.agg #[.pointer (some ⟨rb, 0, none⟩)], .int .i64 ((7 - d : Nat) : Int)] w (ReadG (RdExV (exprL d r).1) rb s (exprL d r).2 w))
    (q : Ex × Rdr) (hq : q = if k = 1 then (Ex.mk 1 (zagZ (numR r1 maxU).1) [], (numR r1 maxU).2)
      else if k = 2 then (.mk 2 ((numL r1 0 7).1 : Nat) [], (numL r1 0 7).2)
      else if k = 3 then (.mk 3 ((numL r1 0 5).1 : Nat) [], (numL r1 0 5).2)
      else (.mk (k : Nat) 0 [(exprL d r1).1, (exprL d (exprL d r1).2).1], (exprL d (exprL d r1).2).2)) :
    Calls Try.prog 51 #[.agg #[.pointer (some ⟨rb, 0, none⟩)], .int .i64 dn] w (ReadG (RdExV q.1) rb s q.2 w) := by
  obtain ⟨W1, hW1⟩ : ∃ W1, W1 = (w.alloc (.cells #[.pointer (some ⟨rb, 0, none⟩)] 43)).alloc (.cells #[.int .u8 0, .int .i64 0, .slice none 0 0] 89) := ⟨_, rfl⟩
  have hb1 : Below w.heap.size w W1 := by rw [hW1]; exact ext_alloc (ext_alloc (ext_refl _) _) _
  have hm1 := h.below hb1
  have hbx : Blk W1 w.heap.size #[.pointer (some ⟨rb, 0, none⟩)] 43 := by rw [hW1]; exact (Blk.new _ _ _).alloc _
  have hbo : Blk W1 (w.heap.size + 1) #[.int .u8 0, .int .i64 0, .slice none 0 0] 89 := by rw [hW1]; exact Blk.new' _ _ _ (by simp)
  have hsz : W1.heap.size = w.heap.size + 2 := by rw [hW1]; simp
  have HLT := hid h.lt
  have HD := hid (hD W1 hm1)
  have HK := hid (fun (w' : World) hb => hm1.kept (w' := w') hkp hb)
  have HX := hid hbx
  have HO := hid hbo
  have HSZ := hid hsz
  have HB1 := hid hb1
  have HW1 := hid hW1
  have HE := hid he
  have hop := op_u8 k hk.2
  have HKK := hid hk
  have HQ := hid hq
  have IH := hid ih
  have hx0 := hbx.cell 0 (v := .pointer (some ⟨rb, 0, none⟩)) rfl
  clear h hk he hkp hD hb1 hm1 hbx hbo hsz hW1 hq ih
  go_enter Try.func51, Try.ntmps51
  go_wp2_with fail
  rw [← HW1.out]
  refine HD.out.mono ?_
  rintro e' w2 ⟨rfl, hr2, hT2⟩
  dsimp only at hr2
  have hm2 := HK.out _ hr2
  have hx2 := hT2.blk (by simp; have := HLT.out; omega) HX.out
  have ho2 := hT2.blk (by simp; have := HLT.out; omega) HO.out
  obtain ⟨W3, hW3⟩ : ∃ W3, W3 = w2.alloc (.cells #[.int .u8 (k : Int), .int .i64 0, .slice none 0 0] 89) := ⟨_, rfl⟩
  have hb3 : Below w2.heap.size w2 W3 := by rw [hW3]; exact ext_alloc (ext_refl _) _
  have he3 : Blk W3 w2.heap.size #[.int .u8 (k : Int), .int .i64 0, .slice none 0 0] 89 := by rw [hW3]; exact Blk.new _ _ _
  have hm3 := hm2.below hb3
  have HBAD := hid (bad_any rb s r1 W3 hm3 false (by simpa using HE.out))
  have hx3 := (hx2.below hb3).cell 0 (v := .pointer (some ⟨rb, 0, none⟩)) rfl
  have HR3 : Hid (ExR w rb s r1 k W3 w2.heap.size) := hid ⟨hm3, hx2.below hb3, ho2.below hb3, he3, ⟨HLT.out, (by have := hT2.size; have := HSZ.out; omega)⟩, ((Turn.of_below HB1.out).trans hT2).trans (Turn.of_below hb3)⟩
  have HW3 := hid hW3
  rw [hW3] at hx3
  clear hT2 hr2 hm2 hx2 ho2 hb3 hW3 hx0 he3 hm3
  go_wp2_with fail
  rw [← HW3.out]
  refine HBAD.out.mono ?_
  rintro e' w4 ⟨rfl, hb4⟩
  have HR4 : Hid (ExR w rb s r1 k w4 w2.heap.size) := hid ⟨HR3.out.rd.below hb4, HR3.out.x.below hb4, HR3.out.o.below hb4, HR3.out.e.below hb4, HR3.out.lt, HR3.out.turn.trans (Turn.of_below hb4)⟩
  have x4 := HR4.out.x.cell 0 (v := .pointer (some ⟨rb, 0, none⟩)) rfl
  have e4 := HR4.out.e.cell 0 (v := .int .u8 (k : Int)) rfl
  clear hb4 hx3 HR3 HBAD HW3 HD HB1 HW1 HO HX HSZ hop
  obtain ⟨X, hX⟩ : ∃ X, X = w2.heap.size := ⟨_, rfl⟩
  rw [← hX] at HR4 e4 ⊢
  clear hX
  by_cases h1 : k = 1
  · subst h1
    obtain rfl : q = _ := HQ.out.trans (if_pos rfl)
    have HI := hid (rint_any rb s r1.at_ r1.err w4 HR4.out.rd.blk HR4.out.rd.sz HR4.out.rd.at_)
    rw [← HR4.out.rd.eta] at HI
    have hzr : -9223372036854775808 ≤ zagZ (numR r1 maxU).1 ∧ zagZ (numR r1 maxU).1 ≤ 9223372036854775807 := zag_ok _ (by have := numR_le' r1 maxU; unfold maxU at this ⊢; omega)
    generalize numR r1 maxU = p at *
    have HZR := hid hzr
    clear hzr
    go_wp2_with fail
    refine HI.out.mono ?_
    rintro e' w5 ⟨rfl, hr5, hT5⟩
    have hn5 : X ∉ [rb] ∧ w.heap.size ∉ [rb] ∧ w.heap.size + 1 ∉ [rb] := by have := HR4.out.lt; simp; omega
    have h5 := hT5.blk hn5.1 HR4.out.e
    have h6 := h5.set 1 (.int .i64 (zagZ p.1))
    have ho6 := (hT5.blk hn5.2.2 HR4.out.o).set_other ⟨X, 1, none⟩ (.int .i64 (zagZ p.1)) (by have := HR4.out.lt; dsimp only; omega)
    have a0 := h5.cell 1 (v := .int .i64 0) rfl
    have a1 := h5.free 1
    have b0 := h6.cell 0 (v := .int .u8 1) rfl
    have b1 := h6.cell 1 (v := .int .i64 (zagZ p.1)) rfl
    have b2 := h6.cell 2 (v := .slice none 0 0) rfl
    have c0 := ho6.cell 0 (v := .int .u8 0) rfl
    have c1 := ho6.cell 1 (v := .int .i64 0) rfl
    have c2 := ho6.cell 2 (v := .slice none 0 0) rfl
    have z0 := ho6.free 0
    have z1 := ho6.free 1
    have z2 := ho6.free 2
    have HO6 := hid ho6
    have HT5 := hid hT5
    have HR5 := hid hr5
    clear h5 h6 ho6 hT5 hr5 x4 e4 hn5
    go_wp2_with fail
    have hF := ((HO6.out.set 0 (.int .u8 1)).set 1 (.int .i64 (zagZ p.1))).set 2 (.slice none 0 0)
    have t0 := hF.cell 0 (v := .int .u8 1) rfl
    have t1 := hF.cell 1 (v := .int .i64 (zagZ p.1)) rfl
    have t2 := hF.cell 2 (v := .slice none 0 0) rfl
    refine bodyPost_ret (v := .agg #[.int .u8 1, .int .i64 (zagZ p.1), .slice none 0 0]) (by simp [results, Try.results51, go_sem, t0, t1, t2]) rfl ?_
    exact expr_leaf (k := 1) HR4.out HT5.out HR5.out (by decide) HZR.out
  by_cases h2 : k = 2
  · subst h2
    obtain rfl : q = _ := HQ.out.trans ((if_neg (by omega)).trans (if_pos rfl))
    have HI := hid (num_any rb s r1 0 7 w4 HR4.out.rd (by omega) (by omega))
    have hzr : -9223372036854775808 ≤ ((numL r1 0 7).1 : Int) ∧ ((numL r1 0 7).1 : Int) ≤ 9223372036854775807 := by have := numL_le r1 0 7; omega
    generalize numL r1 0 7 = p at *
    clear h1
    have HZR := hid hzr
    clear hzr
    go_wp2_with fail
    refine HI.out.mono ?_
    rintro e' w5 ⟨rfl, hr5, hT5⟩
    have hn5 : X ∉ [rb] ∧ w.heap.size ∉ [rb] ∧ w.heap.size + 1 ∉ [rb] := by have := HR4.out.lt; simp; omega
    have h5 := hT5.blk hn5.1 HR4.out.e
    have h6 := h5.set 1 (.int .i64 (p.1 : Nat))
    have ho6 := (hT5.blk hn5.2.2 HR4.out.o).set_other ⟨X, 1, none⟩ (.int .i64 (p.1 : Nat)) (by have := HR4.out.lt; dsimp only; omega)
    have a0 := h5.cell 1 (v := .int .i64 0) rfl
    have a1 := h5.free 1
    have b0 := h6.cell 0 (v := .int .u8 2) rfl
    have b1 := h6.cell 1 (v := .int .i64 (p.1 : Nat)) rfl
    have b2 := h6.cell 2 (v := .slice none 0 0) rfl
    have c0 := ho6.cell 0 (v := .int .u8 0) rfl
    have c1 := ho6.cell 1 (v := .int .i64 0) rfl
    have c2 := ho6.cell 2 (v := .slice none 0 0) rfl
    have z0 := ho6.free 0
    have z1 := ho6.free 1
    have z2 := ho6.free 2
    have HO6 := hid ho6
    have HT5 := hid hT5
    have HR5 := hid hr5
    clear h5 h6 ho6 hT5 hr5 x4 e4 hn5
    go_wp2_with fail
    have hF := ((HO6.out.set 0 (.int .u8 2)).set 1 (.int .i64 (p.1 : Nat))).set 2 (.slice none 0 0)
    have t0 := hF.cell 0 (v := .int .u8 2) rfl
    have t1 := hF.cell 1 (v := .int .i64 (p.1 : Nat)) rfl
    have t2 := hF.cell 2 (v := .slice none 0 0) rfl
    refine bodyPost_ret (v := .agg #[.int .u8 2, .int .i64 (p.1 : Nat), .slice none 0 0]) (by simp [results, Try.results51, go_sem, t0, t1, t2]) rfl ?_
    exact expr_leaf (k := 2) HR4.out HT5.out HR5.out (by decide) HZR.out
  by_cases h3 : k = 3
  · subst h3
    obtain rfl : q = _ := HQ.out.trans ((if_neg (by omega)).trans ((if_neg (by omega)).trans (if_pos rfl)))
    have HI := hid (num_any rb s r1 0 5 w4 HR4.out.rd (by omega) (by omega))
    have hzr : -9223372036854775808 ≤ ((numL r1 0 5).1 : Int) ∧ ((numL r1 0 5).1 : Int) ≤ 9223372036854775807 := by have := numL_le r1 0 5; omega
    generalize numL r1 0 5 = p at *
    clear h1 h2
    have HZR := hid hzr
    clear hzr
    go_wp2_with fail
    refine HI.out.mono ?_
    rintro e' w5 ⟨rfl, hr5, hT5⟩
    have hn5 : X ∉ [rb] ∧ w.heap.size ∉ [rb] ∧ w.heap.size + 1 ∉ [rb] := by have := HR4.out.lt; simp; omega
    have h5 := hT5.blk hn5.1 HR4.out.e
    have h6 := h5.set 1 (.int .i64 (p.1 : Nat))
    have ho6 := (hT5.blk hn5.2.2 HR4.out.o).set_other ⟨X, 1, none⟩ (.int .i64 (p.1 : Nat)) (by have := HR4.out.lt; dsimp only; omega)
    have a0 := h5.cell 1 (v := .int .i64 0) rfl
    have a1 := h5.free 1
    have b0 := h6.cell 0 (v := .int .u8 3) rfl
    have b1 := h6.cell 1 (v := .int .i64 (p.1 : Nat)) rfl
    have b2 := h6.cell 2 (v := .slice none 0 0) rfl
    have c0 := ho6.cell 0 (v := .int .u8 0) rfl
    have c1 := ho6.cell 1 (v := .int .i64 0) rfl
    have c2 := ho6.cell 2 (v := .slice none 0 0) rfl
    have z0 := ho6.free 0
    have z1 := ho6.free 1
    have z2 := ho6.free 2
    have HO6 := hid ho6
    have HT5 := hid hT5
    have HR5 := hid hr5
    clear h5 h6 ho6 hT5 hr5 x4 e4 hn5
    go_wp2_with fail
    have hF := ((HO6.out.set 0 (.int .u8 3)).set 1 (.int .i64 (p.1 : Nat))).set 2 (.slice none 0 0)
    have t0 := hF.cell 0 (v := .int .u8 3) rfl
    have t1 := hF.cell 1 (v := .int .i64 (p.1 : Nat)) rfl
    have t2 := hF.cell 2 (v := .slice none 0 0) rfl
    refine bodyPost_ret (v := .agg #[.int .u8 3, .int .i64 (p.1 : Nat), .slice none 0 0]) (by simp [results, Try.results51, go_sem, t0, t1, t2]) rfl ?_
    exact expr_leaf (k := 3) HR4.out HT5.out HR5.out (by decide) HZR.out
  obtain rfl : q = _ := HQ.out.trans ((if_neg h1).trans ((if_neg h2).trans (if_neg h3)))
  have g1 : ((k : Int) == 1) = false := beq_eq_false_iff_ne.2 (by omega)
  have g2 : ((k : Int) == 2) = false := beq_eq_false_iff_ne.2 (by omega)
  have g3 : ((k : Int) == 3) = false := beq_eq_false_iff_ne.2 (by omega)
  have i1 : (k == 1) = false := beq_eq_false_iff_ne.2 h1
  have i2 : (k == 2) = false := beq_eq_false_iff_ne.2 h2
  have i3 : (k == 3) = false := beq_eq_false_iff_ne.2 h3
  have HA := hid (IH.out r1 w4 HR4.out.rd)
  have hka := exprL_kept d HR4.out.rd.rdb
  have HKA := hid (fun (w' : World) hb => HR4.out.rd.kept (w' := w') hka hb)
  have HOA := hid (exprL_op d r1)
  clear h1 h2 h3 hka
  generalize exprL d r1 = a at *
  have HB := hid (fun (w' : World) hb => IH.out a.2 w' (HKA.out w' hb))
  have HOB := hid (exprL_op d a.2)
  generalize exprL d a.2 = b at *
  go_wp2_with fail
  refine HA.out.mono ?_
  rintro e' w5 ⟨va, rfl, hr5, hT5, hva⟩
  obtain ⟨pa, ca, rfl, -⟩ := hva w5 (Agree.refl _ _ _)
  have hn5 : X ∉ [rb] ∧ w.heap.size ∉ [rb] ∧ w.heap.size + 1 ∉ [rb] := by have := HR4.out.lt; simp; omega
  have HR5 : Hid (ExR w rb s a.2 k w5 X) := hid ⟨HKA.out w5 hr5, hT5.blk hn5.2.1 HR4.out.x, hT5.blk hn5.2.2 HR4.out.o, hT5.blk hn5.1 HR4.out.e, HR4.out.lt, HR4.out.turn.trans hT5⟩
  have HVA := hid hva
  have HT5 := hid hT5
  have hb6 := ext_alloc (ext_refl w5) (.cells #[.int .u8 a.1.op, .int .i64 a.1.n, .slice pa a.1.args.length ca] 89)
  have HA6 : Hid (Blk (w5.alloc (.cells #[.int .u8 a.1.op, .int .i64 a.1.n, .slice pa a.1.args.length ca] 89)) w5.heap.size #[.int .u8 a.1.op, .int .i64 a.1.n, .slice pa a.1.args.length ca] 89) := hid (Blk.new _ _ _)
  have x6 := (HR5.out.x.below hb6).cell 0 (v := .pointer (some ⟨rb, 0, none⟩)) rfl
  have HB6 := hid hb6
  clear hva hT5 hr5 hn5 x4 e4 hb6
  go_wp2_with fail
  go_region_law
    (go_simp; go_at_call 51; refine (HB.out _ ((HR5.out.rd.below (ext_drew HB6.out)).blk)).mono ?_; rintro e' w7 ⟨vb, rfl, hr7, hT7, hvb⟩
     obtain ⟨pb, cb, rfl, -⟩ := hvb w7 (Agree.refl _ _ _)
     have hd6 := ext_drew HB6.out
     have hn7 : X ∉ [rb] ∧ w5.heap.size ∉ [rb] ∧ w.heap.size + 1 ∉ [rb] := by (have := HR5.out.lt; have := HR5.out.turn.size; have := HR5.out.rd.lt; simp; omega)
     have hA7 := hT7.blk hn7.2.1 (HA6.out.below (ext_drew (ext_refl _)))
     have p0 := hA7.cell 0 (v := .int .u8 a.1.op) rfl
     have p1 := hA7.cell 1 (v := .int .i64 a.1.n) rfl
     have p2 := hA7.cell 2 (v := .slice pa a.1.args.length ca) rfl
     have hb8 := ext_alloc (ext_refl w7) (.cells #[.int .u8 a.1.op, .int .i64 a.1.n, .slice pa a.1.args.length ca, .int .u8 b.1.op, .int .i64 b.1.n, .slice pb b.1.args.length cb] 89)
     have hg8 : Blk (w7.alloc (.cells #[.int .u8 a.1.op, .int .i64 a.1.n, .slice pa a.1.args.length ca, .int .u8 b.1.op, .int .i64 b.1.n, .slice pb b.1.args.length cb] 89)) w7.heap.size #[.int .u8 a.1.op, .int .i64 a.1.n, .slice pa a.1.args.length ca, .int .u8 b.1.op, .int .i64 b.1.n, .slice pb b.1.args.length cb] 89 := Blk.new _ _ _
     have he8 := (hT7.blk hn7.1 (HR5.out.e.below hd6)).below hb8
     have ho8 := (hT7.blk hn7.2.2 (HR5.out.o.below hd6)).below hb8
     have q2 := he8.cell 2 (v := .slice none 0 0) rfl
     have f2 := he8.free 2
     have HE8 := hid he8
     have HG8 := hid hg8
     have HO8 := hid ho8
     have HB8 := hid hb8
     have HVB := hid hvb
     have HT7 := hid hT7
     have HR7 := hid hr7
     clear hvb hT7 hr7 hd6 hn7 hA7 hb8 hg8 he8 ho8)
  all_goals (
    have h9 := HE8.out.set 2 (.slice (some ⟨w7.heap.size, 0, none⟩) 2 2)
    have ho9 := HO8.out.set_other ⟨X, 2, none⟩ (.slice (some ⟨w7.heap.size, 0, none⟩) 2 2) (by have := HR5.out.lt; dsimp only; omega)
    have b0 := h9.cell 0 (v := .int .u8 (k : Int)) rfl
    have b1 := h9.cell 1 (v := .int .i64 0) rfl
    have b2 := h9.cell 2 (v := .slice (some ⟨w7.heap.size, 0, none⟩) 2 2) rfl
    have c0 := ho9.cell 0 (v := .int .u8 0) rfl
    have c1 := ho9.cell 1 (v := .int .i64 0) rfl
    have c2 := ho9.cell 2 (v := .slice none 0 0) rfl
    have z0 := ho9.free 0
    have z1 := ho9.free 1
    have z2 := ho9.free 2
    have HO9 := hid ho9
    clear h9 ho9 p0 p1 p2 q2 f2 x6
    go_wp2_with fail
    have hF := ((HO9.out.set 0 (.int .u8 (k : Int))).set 1 (.int .i64 0)).set 2 (.slice (some ⟨w7.heap.size, 0, none⟩) 2 2)
    have t0 := hF.cell 0 (v := .int .u8 (k : Int)) rfl
    have t1 := hF.cell 1 (v := .int .i64 0) rfl
    have t2 := hF.cell 2 (v := .slice (some ⟨w7.heap.size, 0, none⟩) 2 2) rfl
    refine bodyPost_ret (v := .agg #[.int .u8 (k : Int), .int .i64 0, .slice (some ⟨w7.heap.size, 0, none⟩) 2 2]) (by simp [results, Try.results51, go_sem, t0, t1, t2]) rfl ?_
    exact expr_pair HR4.out.e.lt HR5.out HT5.out.size (ext_drew HB6.out) HT7.out HVA.out HVB.out HR7.out HG8.out HKK.out.2)
set_option maxRecDepth 100000 in
set_option maxHeartbeats 4000000 in
theorem expr_any : ∀ (d : Nat) (rb : Nat) (s : ByteArray) (r : Rdr) (w : World), RdM w rb s r → d ≤ 6 →
    Calls Try.prog 51 #[.agg #[.pointer (some ⟨rb, 0, none⟩)], .int .i64 ((7 - d : Nat) : Int)] w (ReadG (RdExV (exprL d r).1) rb s (exprL d r).2 w) := by
  intro d
  induction d with
  | zero =>
    intro rb s r w h hd
    have hk := numL_le r 1 8
    exact expr_err rb s r (failC (numL r 1 8).2 r.at_ 40) (numL r 1 8).1 _ w h hk (failC_err (by omega)) (failC_kept (numL_kept h.rdb 1 8) h.rdb.2 (by simp)) (fun W1 h1 => deep_any rb s r 0 W1 h1 (by omega))
  | succ d ih =>
    intro rb s r w h hd
    have hk := numL_le r 1 8
    have hkp := numL_kept h.rdb 1 8
    have hD : ∀ W1, RdM W1 rb s r → Calls Try.prog 63 #[.agg #[.pointer (some ⟨rb, 0, none⟩)], .int .i64 1, .int .i64 8, .int .i64 ((7 - (d + 1) : Nat) : Int)] W1 (IntP rb s ((numL r 1 8).1, (numL r 1 8).2) W1) := fun W1 h1 => by
      have := deep_any rb s r (d + 1) W1 h1 hd
      rwa [if_neg (by omega)] at this
    by_cases he : (numL r 1 8).2.err = 0
    · refine expr_ok d rb s r (numL r 1 8).2 (numL r 1 8).1 _ w h ⟨(numL_went h.rdb he).2, hk⟩ he hkp ?_ hD (fun r' w' h' => ih rb s r' w' h' (by omega)) _ ?_
      · rw [IntWalk.i64_in _ (by omega)]; omega
      · rw [exprL, if_neg (by omega)]
    · have e : exprL (d + 1) r = (exZ, (numL r 1 8).2) := by rw [exprL, if_pos he]
      rw [e]
      exact expr_err rb s r (numL r 1 8).2 (numL r 1 8).1 _ w h hk he hkp hD
end Go.Proofs.Ytaklfjjkeebheaa
