/-
  Walks: event.Parse.
-/
import Derived.Test.YtlbpollckiidlaaDoorEvW3
namespace Go.Proofs.YtlbpollckiidlaaDoor
set_option linter.unusedVariables false
set_option linter.unusedSimpArgs false
open Go Go.RowKit
theorem splitK_few (L : List UInt8) : (Lib.split L [32]).length ≤ L.length + 2 := by
  have key : ∀ (k : Nat) (s : List UInt8), (Lib.splitK [32] 0 k s).length ≤ k + 1 := by
    intro k
    induction k with
    | zero => intro s; simp [Lib.splitK]
    | succ k ih =>
      intro s
      unfold Lib.splitK
      split
      · simp
      · have := ih (s.drop ((Lib.index s [32]).toNat + [(32 : UInt8)].length))
        rw [List.length_cons]; omega
  have h1 := key (Lib.count L [32]) L
  have h2 := Lib.count_le L [32]
  unfold Lib.split; omega
theorem put7 {w : World} {b : Nat} {c0 c1 c2 c3 c4 c5 c6 : Value} {t : TypeId} (h : Blk w b #[c0, c1, c2, c3, c4, c5, c6] t) (v0 v1 v2 v3 v4 v5 v6 : Value) : Blk (((((((w.setCell ⟨b, 0, none⟩ v0).setCell ⟨b, 1, none⟩ v1).setCell ⟨b, 2, none⟩ v2).setCell ⟨b, 3, none⟩ v3).setCell ⟨b, 4, none⟩ v4).setCell ⟨b, 5, none⟩ v5).setCell ⟨b, 6, none⟩ v6) b #[v0, v1, v2, v3, v4, v5, v6] t := by
  have := ((((((h.set 0 v0).set 1 v1).set 2 v2).set 3 v3).set 4 v4).set 5 v5).set 6 v6
  simpa using this
theorem below7 {a w : World} {B b : Nat} (h : Below B a w) (hb : B ≤ b) (v0 v1 v2 v3 v4 v5 v6 : Value) : Below B a (((((((w.setCell ⟨b, 0, none⟩ v0).setCell ⟨b, 1, none⟩ v1).setCell ⟨b, 2, none⟩ v2).setCell ⟨b, 3, none⟩ v3).setCell ⟨b, 4, none⟩ v4).setCell ⟨b, 5, none⟩ v5).setCell ⟨b, 6, none⟩ v6) :=
  ((((((h.setCell (p := ⟨b, 0, none⟩) hb v0).setCell (p := ⟨b, 1, none⟩) hb v1).setCell (p := ⟨b, 2, none⟩) hb v2).setCell (p := ⟨b, 3, none⟩) hb v3).setCell (p := ⟨b, 4, none⟩) hb v4).setCell (p := ⟨b, 5, none⟩) hb v5).setCell (p := ⟨b, 6, none⟩) hb v6
/-- What Parse comes to. -/
def ParseP (L : List UInt8) (w : World) (e : Ending) (w' : World) : Prop := e = .returned (.tuple #[evA (parseR L).1, .int .i64 (parseR L).2]) ∧ Below w.heap.size w w'
set_option maxRecDepth 100000 in
set_option maxHeartbeats 4000000 in
theorem parse_few (L : List UInt8) (hl : L.length ≤ 1000) (w : World) (hS : Std w) (hT : (Lib.split L [32]).length < 2) : Calls Tryd.prog 13 #[.string ⟨L.toArray⟩] w (ParseP L w) := by
  have HSP := hid (fun W (hW : Below w.heap.size w W) => split_any L hl W (hS.below hW))
  have HR : Hid (parseR L = (evZ, 4)) := hid (parseR_none (by
    unfold parseE
    generalize Lib.split L [32] = T at hT
    match T, hT with
    | [], _ => rfl
    | [x], _ => rfl))
  generalize hTT : Lib.split L [32] = T at HSP hT
  have g1 : decide ((T.length : Int) < 2) = true := by rw [decide_eq_true_iff]; omega
  have g2 : decide (T.length < 2) = true := by rw [decide_eq_true_iff]; omega
  clear hS hl hTT hT
  have HB0 : Hid (Below w.heap.size w (w.alloc (.cells #[.int .u8 0, .int .i64 0, .int .i64 0, .int .i64 0, .int .i64 0, .int .i64 0, .int .u8 0] 23))) := hid (ext_alloc (ext_refl _) _)
  go_enter Tryd.func13, Tryd.ntmps13
  go_wp2_with fail
  refine (HSP.out _ HB0.out).mono ?_
  rintro e' w1 ⟨rfl, rfl⟩
  have z := (Blk.new w #[.int .u8 0, .int .i64 0, .int .i64 0, .int .i64 0, .int .i64 0, .int .i64 0, .int .u8 0] 23).alloc (.cells (T.map strV).toArray 9)
  have z0 := z.cell 0 rfl
  have z1 := z.cell 1 rfl
  have z2 := z.cell 2 rfl
  have z3 := z.cell 3 rfl
  have z4 := z.cell 4 rfl
  have z5 := z.cell 5 rfl
  have z6 := z.cell 6 rfl
  have HEND := hid (ext_alloc HB0.out (.cells (T.map strV).toArray 9))
  clear z
  go_wp2_with fail
  exact bodyPost_ret (v := .tuple #[evA evZ, .int .i64 4]) (by simp [results, Tryd.results13, go_sem, z0, z1, z2, z3, z4, z5, z6, evA, evZ]) rfl (by unfold ParseP; rw [HR.out]; exact ⟨rfl, HEND.out⟩)
set_option maxRecDepth 100000 in
set_option maxHeartbeats 4000000 in
theorem parse_nokind (L : List UInt8) (hl : L.length ≤ 1000) (w : World) (hS : Std w) (t0 t1 : List UInt8) (rest : List (List UInt8)) (hT : Lib.split L [32] = t0 :: t1 :: rest) (hk : kindOf t1 = none) : Calls Tryd.prog 13 #[.string ⟨L.toArray⟩] w (ParseP L w) := by
  have HSP := hid (fun W (hW : Below w.heap.size w W) => split_any L hl W (hS.below hW))
  rw [hT] at HSP
  have HR : Hid (parseR L = (evZ, 4)) := hid (parseR_none (by unfold parseE; rw [hT]; simp only [hk]))
  have hl0 : t0.length ≤ 1000 := Nat.le_trans (split_len L t0 (by rw [hT]; simp)) hl
  have HKD := hid (fun W (hW : Below w.heap.size w W) => kind_any t1 W (hS.below hW).names)
  rw [hk] at HKD
  have HAT : Hid (∀ W, Below w.heap.size w W → Calls Tryd.prog 28 #[.string ⟨t0.toArray⟩] W fun e w' => ∃ v er, e = .returned (.tuple #[.int .i64 v, er]) ∧ Below W.heap.size W w') := hid (fun W hW => by
    by_cases ho : ∃ v, Lib.atoiAll t0 = .ok v
    · obtain ⟨v, hv⟩ := ho
      refine (atoi_ok t0 hl0 v hv W).mono ?_
      rintro e w' ⟨h1, h2⟩
      exact ⟨v, _, h1, h2⟩
    · refine (atoi_bad t0 hl0 (fun v hv => ho ⟨v, hv⟩) W (hS.below hW)).mono ?_
      rintro e w' ⟨v, N, h1, h2⟩
      exact ⟨v, _, h1, h2⟩)
  have g1 : decide (((t0 :: t1 :: rest).length : Int) < 2) = false := by rw [decide_eq_false_iff_not]; simp only [List.length_cons]; omega
  generalize hTT : t0 :: t1 :: rest = T at HSP g1
  have g2 : decide (T.length < 2) = false := by subst hTT; rw [decide_eq_false_iff_not]; simp only [List.length_cons]; omega
  have g3 : (1 : Int) < (T.length : Int) := by subst hTT; simp only [List.length_cons]; omega
  have HC : Hid ((T.map strV).toArray[0]? = some (.string ⟨t0.toArray⟩) ∧ (T.map strV).toArray[1]? = some (.string ⟨t1.toArray⟩)) := hid (by subst hTT; exact ⟨rfl, rfl⟩)
  clear hS hl hTT hT hk hl0
  have HB0 : Hid (Below w.heap.size w (w.alloc (.cells #[.int .u8 0, .int .i64 0, .int .i64 0, .int .i64 0, .int .i64 0, .int .i64 0, .int .u8 0] 23))) := hid (ext_alloc (ext_refl _) _)
  go_enter Tryd.func13, Tryd.ntmps13
  go_wp2_with fail
  refine (HSP.out _ HB0.out).mono ?_
  rintro e' w1 ⟨rfl, rfl⟩
  have HB1 := hid (ext_alloc HB0.out (.cells (T.map strV).toArray 9))
  have hr := Blk.new' (w.alloc (.cells #[.int .u8 0, .int .i64 0, .int .i64 0, .int .i64 0, .int .i64 0, .int .i64 0, .int .u8 0] 23)) (T.map strV).toArray 9 (b := w.heap.size + 1) (Array.size_push ..).symm
  have r0 := hr.cell 0 HC.out.1
  have r1 := hr.cell 1 HC.out.2
  have z := (Blk.new w #[.int .u8 0, .int .i64 0, .int .i64 0, .int .i64 0, .int .i64 0, .int .i64 0, .int .u8 0] 23).alloc (.cells (T.map strV).toArray 9)
  clear hr
  go_wp2_with fail
  refine (HKD.out _ HB1.out).mono ?_
  unfold kindV
  rintro e' w1 ⟨rfl, rfl⟩
  go_wp2_with fail
  refine (HAT.out _ HB1.out).mono ?_
  rintro e' w2 ⟨av, er, rfl, hb2⟩
  have HEND := hid (ext_trans HB1.out hb2)
  have zz := z.below hb2
  have z0 := zz.cell 0 rfl
  have z1 := zz.cell 1 rfl
  have z2 := zz.cell 2 rfl
  have z3 := zz.cell 3 rfl
  have z4 := zz.cell 4 rfl
  have z5 := zz.cell 5 rfl
  have z6 := zz.cell 6 rfl
  have f0 := zz.free 0
  have f1 := zz.free 1
  have f2 := zz.free 2
  have f3 := zz.free 3
  have f4 := zz.free 4
  have f5 := zz.free 5
  have f6 := zz.free 6
  have HZZ := hid zz
  clear hb2 z zz r0 r1
  go_wp2_with fail
  have y := put7 HZZ.out (.int .u8 0) (.int .i64 0) (.int .i64 0) (.int .i64 0) (.int .i64 0) (.int .i64 0) (.int .u8 0)
  have y0 := y.cell 0 rfl
  have y1 := y.cell 1 rfl
  have y2 := y.cell 2 rfl
  have y3 := y.cell 3 rfl
  have y4 := y.cell 4 rfl
  have y5 := y.cell 5 rfl
  have y6 := y.cell 6 rfl
  exact bodyPost_ret (v := .tuple #[evA evZ, .int .i64 4]) (by simp [results, Tryd.results13, go_sem, y0, y1, y2, y3, y4, y5, y6, evA, evZ]) rfl (by unfold ParseP; rw [HR.out]; exact ⟨rfl, below7 HEND.out (Nat.le_refl _) _ _ _ _ _ _ _⟩)
set_option maxRecDepth 100000 in
set_option maxHeartbeats 4000000 in
theorem parse_noint (L : List UInt8) (hl : L.length ≤ 1000) (w : World) (hS : Std w) (t0 t1 : List UInt8) (rest : List (List UInt8)) (hT : Lib.split L [32] = t0 :: t1 :: rest) (k : Nat) (hk : kindOf t1 = some k) (hbad : ∀ v, Lib.atoiAll t0 ≠ .ok v) : Calls Tryd.prog 13 #[.string ⟨L.toArray⟩] w (ParseP L w) := by
  have HSP := hid (fun W (hW : Below w.heap.size w W) => split_any L hl W (hS.below hW))
  rw [hT] at HSP
  have HR : Hid (parseR L = (evZ, 4)) := hid (parseR_none (by unfold parseE; rw [hT]; simp only [hk, okOf_none hbad]))
  have hl0 : t0.length ≤ 1000 := Nat.le_trans (split_len L t0 (by rw [hT]; simp)) hl
  have HKD := hid (fun W (hW : Below w.heap.size w W) => kind_any t1 W (hS.below hW).names)
  rw [hk] at HKD
  have HAT := hid (fun W (hW : Below w.heap.size w W) => atoi_bad t0 hl0 hbad W (hS.below hW))
  have g1 : decide (((t0 :: t1 :: rest).length : Int) < 2) = false := by rw [decide_eq_false_iff_not]; simp only [List.length_cons]; omega
  generalize hTT : t0 :: t1 :: rest = T at HSP g1
  have g2 : decide (T.length < 2) = false := by subst hTT; rw [decide_eq_false_iff_not]; simp only [List.length_cons]; omega
  have g3 : (1 : Int) < (T.length : Int) := by subst hTT; simp only [List.length_cons]; omega
  have HC : Hid ((T.map strV).toArray[0]? = some (.string ⟨t0.toArray⟩) ∧ (T.map strV).toArray[1]? = some (.string ⟨t1.toArray⟩)) := hid (by subst hTT; exact ⟨rfl, rfl⟩)
  clear hS hl hTT hT hk hl0 hbad
  have HB0 : Hid (Below w.heap.size w (w.alloc (.cells #[.int .u8 0, .int .i64 0, .int .i64 0, .int .i64 0, .int .i64 0, .int .i64 0, .int .u8 0] 23))) := hid (ext_alloc (ext_refl _) _)
  go_enter Tryd.func13, Tryd.ntmps13
  go_wp2_with fail
  refine (HSP.out _ HB0.out).mono ?_
  rintro e' w1 ⟨rfl, rfl⟩
  have HB1 := hid (ext_alloc HB0.out (.cells (T.map strV).toArray 9))
  have hr := Blk.new' (w.alloc (.cells #[.int .u8 0, .int .i64 0, .int .i64 0, .int .i64 0, .int .i64 0, .int .i64 0, .int .u8 0] 23)) (T.map strV).toArray 9 (b := w.heap.size + 1) (Array.size_push ..).symm
  have r0 := hr.cell 0 HC.out.1
  have r1 := hr.cell 1 HC.out.2
  have z := (Blk.new w #[.int .u8 0, .int .i64 0, .int .i64 0, .int .i64 0, .int .i64 0, .int .i64 0, .int .u8 0] 23).alloc (.cells (T.map strV).toArray 9)
  clear hr
  go_wp2_with fail
  refine (HKD.out _ HB1.out).mono ?_
  unfold kindV
  rintro e' w1 ⟨rfl, rfl⟩
  go_wp2_with fail
  refine (HAT.out _ HB1.out).mono ?_
  rintro e' w2 ⟨av, N, rfl, hb2⟩
  have HEND := hid (ext_trans HB1.out hb2)
  have zz := z.below hb2
  have z0 := zz.cell 0 rfl
  have z1 := zz.cell 1 rfl
  have z2 := zz.cell 2 rfl
  have z3 := zz.cell 3 rfl
  have z4 := zz.cell 4 rfl
  have z5 := zz.cell 5 rfl
  have z6 := zz.cell 6 rfl
  have f0 := zz.free 0
  have f1 := zz.free 1
  have f2 := zz.free 2
  have f3 := zz.free 3
  have f4 := zz.free 4
  have f5 := zz.free 5
  have f6 := zz.free 6
  have HZZ := hid zz
  clear hb2 z zz r0 r1
  go_wp2_with fail
  have y := put7 HZZ.out (.int .u8 0) (.int .i64 0) (.int .i64 0) (.int .i64 0) (.int .i64 0) (.int .i64 0) (.int .u8 0)
  have y0 := y.cell 0 rfl
  have y1 := y.cell 1 rfl
  have y2 := y.cell 2 rfl
  have y3 := y.cell 3 rfl
  have y4 := y.cell 4 rfl
  have y5 := y.cell 5 rfl
  have y6 := y.cell 6 rfl
  exact bodyPost_ret (v := .tuple #[evA evZ, .int .i64 4]) (by simp [results, Tryd.results13, go_sem, y0, y1, y2, y3, y4, y5, y6, evA, evZ]) rfl (by unfold ParseP; rw [HR.out]; exact ⟨rfl, below7 HEND.out (Nat.le_refl _) _ _ _ _ _ _ _⟩)
set_option maxRecDepth 100000 in
set_option maxHeartbeats 4000000 in
theorem parse_nolen (L : List UInt8) (hl : L.length ≤ 1000) (w : World) (hS : Std w) (t0 t1 : List UInt8) (rest : List (List UInt8)) (hT : Lib.split L [32] = t0 :: t1 :: rest) (k : Nat) (hk : kindOf t1 = some k) (th : Int) (hok : Lib.atoiAll t0 = .ok th) (hlen : rest.length ≠ (kindsL.getD k []).length) : Calls Tryd.prog 13 #[.string ⟨L.toArray⟩] w (ParseP L w) := by
  have HSP := hid (fun W (hW : Below w.heap.size w W) => split_any L hl W (hS.below hW))
  rw [hT] at HSP
  have HR : Hid (parseR L = (evZ, 4)) := hid (parseR_none (by unfold parseE; rw [hT]; simp only [hk, hok, okOf]; rw [if_neg hlen]))
  have hl0 : t0.length ≤ 1000 := Nat.le_trans (split_len L t0 (by rw [hT]; simp)) hl
  have HKD := hid (fun W (hW : Below w.heap.size w W) => kind_any t1 W (hS.below hW).names)
  rw [hk] at HKD
  have HAT := hid (fun W (hW : Below w.heap.size w W) => atoi_ok t0 hl0 th hok W)
  obtain ⟨hk1, hk2, -⟩ := kindOf_is hk
  obtain ⟨ka, kcap, kc, -, -⟩ := hS.kinds k (kindsL.getD k []) (by
    rw [List.getD_eq_getElem?_getD]
    cases hl : kindsL[k]? with
    | none => exact absurd (List.getElem?_eq_none_iff.1 hl) (by simp [kindsL]; omega)
    | some l => rfl)
  generalize hfs : kindsL.getD k [] = fs at hlen kc
  have hTl : (t0 :: t1 :: rest).length = rest.length + 2 := rfl
  have q1 : (0 : Int) ≤ (k : Int) := by omega
  have q2 : (k : Int) < 14 := by omega
  have g1 : decide (((t0 :: t1 :: rest).length : Int) < 2) = false := by rw [decide_eq_false_iff_not]; simp only [List.length_cons]; omega
  generalize hTT : t0 :: t1 :: rest = T at HSP g1 hTl
  have q4 : ((T.length : Int) - 2 != (fs.length : Int)) = true := by simp; omega
  have q5 : IntKind.i64.wrap ((T.length : Int) - 2) = (T.length : Int) - 2 := IntWalk.i64_in _ (by have := splitK_few L; rw [hT] at this; simp only [hTT] at this; omega)
  have g2 : decide (T.length < 2) = false := by subst hTT; rw [decide_eq_false_iff_not]; simp only [List.length_cons]; omega
  have g3 : (1 : Int) < (T.length : Int) := by subst hTT; simp only [List.length_cons]; omega
  have HC : Hid ((T.map strV).toArray[0]? = some (.string ⟨t0.toArray⟩) ∧ (T.map strV).toArray[1]? = some (.string ⟨t1.toArray⟩)) := hid (by subst hTT; exact ⟨rfl, rfl⟩)
  clear hS hl hTT hT hk hl0 hok hlen hfs hTl hk1 hk2
  have HB0 : Hid (Below w.heap.size w (w.alloc (.cells #[.int .u8 0, .int .i64 0, .int .i64 0, .int .i64 0, .int .i64 0, .int .i64 0, .int .u8 0] 23))) := hid (ext_alloc (ext_refl _) _)
  go_enter Tryd.func13, Tryd.ntmps13
  go_wp2_with fail
  refine (HSP.out _ HB0.out).mono ?_
  rintro e' w1 ⟨rfl, rfl⟩
  have HB1 := hid (ext_alloc HB0.out (.cells (T.map strV).toArray 9))
  have hr := Blk.new' (w.alloc (.cells #[.int .u8 0, .int .i64 0, .int .i64 0, .int .i64 0, .int .i64 0, .int .i64 0, .int .u8 0] 23)) (T.map strV).toArray 9 (b := w.heap.size + 1) (Array.size_push ..).symm
  have r0 := hr.cell 0 HC.out.1
  have r1 := hr.cell 1 HC.out.2
  have z := (Blk.new w #[.int .u8 0, .int .i64 0, .int .i64 0, .int .i64 0, .int .i64 0, .int .i64 0, .int .u8 0] 23).alloc (.cells (T.map strV).toArray 9)
  clear hr
  go_wp2_with fail
  refine (HKD.out _ HB1.out).mono ?_
  unfold kindV
  rintro e' w1 ⟨rfl, rfl⟩
  go_wp2_with fail
  refine (HAT.out _ HB1.out).mono ?_
  rintro e' w2 ⟨rfl, hb2⟩
  have HEND := hid (ext_trans HB1.out hb2)
  have kc' := later HEND.out kc
  have zz := z.below hb2
  have z0 := zz.cell 0 rfl
  have z1 := zz.cell 1 rfl
  have z2 := zz.cell 2 rfl
  have z3 := zz.cell 3 rfl
  have z4 := zz.cell 4 rfl
  have z5 := zz.cell 5 rfl
  have z6 := zz.cell 6 rfl
  have f0 := zz.free 0
  have f1 := zz.free 1
  have f2 := zz.free 2
  have f3 := zz.free 3
  have f4 := zz.free 4
  have f5 := zz.free 5
  have f6 := zz.free 6
  have HZZ := hid zz
  clear hb2 z zz r0 r1 kc
  go_wp2_with fail
  have y := put7 HZZ.out (.int .u8 0) (.int .i64 0) (.int .i64 0) (.int .i64 0) (.int .i64 0) (.int .i64 0) (.int .u8 0)
  have y0 := y.cell 0 rfl
  have y1 := y.cell 1 rfl
  have y2 := y.cell 2 rfl
  have y3 := y.cell 3 rfl
  have y4 := y.cell 4 rfl
  have y5 := y.cell 5 rfl
  have y6 := y.cell 6 rfl
  exact bodyPost_ret (v := .tuple #[evA evZ, .int .i64 4]) (by simp [results, Tryd.results13, go_sem, y0, y1, y2, y3, y4, y5, y6, evA, evZ]) rfl (by unfold ParseP; rw [HR.out]; exact ⟨rfl, below7 HEND.out (Nat.le_refl _) _ _ _ _ _ _ _⟩)
end Go.Proofs.YtlbpollckiidlaaDoor
