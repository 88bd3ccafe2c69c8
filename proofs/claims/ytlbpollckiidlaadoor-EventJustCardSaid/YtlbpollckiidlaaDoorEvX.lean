/-
  Walk: the law EventJust.
-/
import Derived.Test.YtlbpollckiidlaaDoorEvW6
import Derived.Test.YtlbpollckiidlaaDoorEvM
import Derived.Test.YtlbpollckiidlaaDoorEvJ
namespace Go.Proofs.YtlbpollckiidlaaDoor
set_option linter.unusedVariables false
set_option linter.unusedSimpArgs false
open Go Go.RowKit
theorem Int.decide_eq_beq' (a b : Int) : decide (a = b) = (a == b) := by
  by_cases h : a = b <;> simp [h]
theorem wrap_rem (a n : Int) (h : 0 < n) (h' : n ≤ 1000) : ∃ r : Int, wrap64 ((IntKind.u64.wrap a).tmod n) = r ∧ 0 ≤ r ∧ r < n := ⟨_, rfl, (urem a n h h').1, (urem a n h h').2⟩
set_option maxRecDepth 100000 in
set_option maxHeartbeats 4000000 in
theorem just_no (e : Ev) (T V S n : Int) (w : World) (he : EvOk e) (hS : Std w) (hm : mayE e T V S = false) :
    Calls Tryd.prog 8 #[evA e, .int .i64 T, .int .i64 V, .int .i64 S, .int .i64 n] w fun e' w' => e' = .returned (.bool true) ∧ Below w.heap.size w w' := by
  have HA := hid (fun W (hW : Below w.heap.size w W) => awake_any W (hS.below hW))
  have HM := hid (fun T V S W (hW : Below w.heap.size w W) => may_any e T V S W he (hS.kinds.below hW))
  have HN := hid hm
  obtain ⟨kind, th, tx, at_, v, x, why⟩ := e
  clear he hS hm
  dsimp only [evA] at HM ⊢
  have HB : Hid (Below w.heap.size w (w.alloc (.cells #[.int .u8 kind, .int .i64 th, .int .i64 tx, .int .i64 at_, .int .i64 v, .int .i64 x, .int .u8 why] 23))) := hid (ext_alloc (ext_refl _) _)
  have HE : Hid (Blk (w.alloc (.cells #[.int .u8 kind, .int .i64 th, .int .i64 tx, .int .i64 at_, .int .i64 v, .int .i64 x, .int .u8 why] 23)) w.heap.size #[.int .u8 kind, .int .i64 th, .int .i64 tx, .int .i64 at_, .int .i64 v, .int .i64 x, .int .u8 why] 23) := hid (Blk.new _ _ _)
  go_enter Tryd.func8, Tryd.ntmps8
  go_wp2_with fail
  refine (HA.out _ HB.out).mono ?_
  rintro e' w2 ⟨rfl, hb2⟩
  have HB2 := hid (ext_trans HB.out hb2)
  have r0 := later hb2 (HE.out.cell 0 rfl)
  have r1 := later hb2 (HE.out.cell 1 rfl)
  have r2 := later hb2 (HE.out.cell 2 rfl)
  have r3 := later hb2 (HE.out.cell 3 rfl)
  have r4 := later hb2 (HE.out.cell 4 rfl)
  have r5 := later hb2 (HE.out.cell 5 rfl)
  have r6 := later hb2 (HE.out.cell 6 rfl)
  clear hb2
  go_wp2_with fail
  refine (HM.out T V S _ HB2.out).mono ?_
  rintro e' w3 ⟨rfl, hb3⟩
  rw [HN.out]
  have HB3 := hid (ext_trans HB2.out hb3)
  clear hb3
  go_wp2_with fail
  go_ret
  exact ⟨rfl, HB3.out⟩
set_option maxRecDepth 100000 in
set_option maxHeartbeats 4000000 in
theorem just_yes (e : Ev) (T V S n : Int) (w : World) (he : EvOk e) (hSi : -9223372036854775808 ≤ S ∧ S ≤ 9223372036854775807) (hS : Std w) (hm : mayE e T V S = true) :
    Calls Tryd.prog 8 #[evA e, .int .i64 T, .int .i64 V, .int .i64 S, .int .i64 n] w fun e' w' => e' = .returned (.bool true) ∧ Below w.heap.size w w' := by
  have HA := hid (fun W (hW : Below w.heap.size w W) => awake_any W (hS.below hW))
  have HMA := hid (fun e he T V S W (hW : Below w.heap.size w W) => may_any e T V S W he (hS.kinds.below hW))
  have HSA := hid (fun W => stripe_any e S W he hSi)
  have HST := hid (fun h => just_stripe (e := e) (T := T) (V := V) (S := S) hm h)
  have HEO := hid he
  have HN := hid hm
  have hsz := mayE_sizes hm
  have HSZ := hid hsz
  obtain ⟨kind, th, tx, at_, v, x, why⟩ := e
  obtain ⟨ra, hra, ra0, ra1⟩ := wrap_rem n 1000 (by omega) (by omega)
  obtain ⟨rb, hrb, rb0, rb1⟩ := wrap_rem n 5 (by omega) (by omega)
  have jt : wrap64 (T + ra) = T + ra := by unfold wrap64; omega
  have jb : wrap64 (1 + rb) = 1 + rb := by unfold wrap64; omega
  have ja : wrap64 (1 + ra) = 1 + ra := by unfold wrap64; omega
  have jw : IntKind.u8.wrap ((IntKind.u64.wrap n).tmod 5) = rb := by
    rw [← hrb]
    have h0 : 0 ≤ IntKind.u64.wrap n := by
      have : IntKind.u64.wrap n = n % 18446744073709551616 := by simp [IntKind.wrap, IntKind.signed, IntKind.bits]
      omega
    rw [Int.tmod_eq_emod_of_nonneg h0]
    simp [IntKind.wrap, IntKind.signed, IntKind.bits, wrap64]
    omega
  have jv : IntKind.u8.wrap (1 + rb) = 1 + rb := by simp [IntKind.wrap, IntKind.signed, IntKind.bits]; omega
  have HR := hid (And.intro (And.intro ra0 ra1) (And.intro rb0 rb1))
  clear he hS hm hsz ra0 ra1 rb0 rb1 hSi
  unfold StripeP at HSA
  dsimp only [evA] at HSA ⊢
  have HB : Hid (Below w.heap.size w (w.alloc (.cells #[.int .u8 kind, .int .i64 th, .int .i64 tx, .int .i64 at_, .int .i64 v, .int .i64 x, .int .u8 why] 23))) := hid (ext_alloc (ext_refl _) _)
  have HE : Hid (Blk (w.alloc (.cells #[.int .u8 kind, .int .i64 th, .int .i64 tx, .int .i64 at_, .int .i64 v, .int .i64 x, .int .u8 why] 23)) w.heap.size #[.int .u8 kind, .int .i64 th, .int .i64 tx, .int .i64 at_, .int .i64 v, .int .i64 x, .int .u8 why] 23) := hid (Blk.new _ _ _)
  go_enter Tryd.func8, Tryd.ntmps8
  go_wp2_with fail
  refine (HA.out _ HB.out).mono ?_
  rintro e' w2 ⟨rfl, hb2⟩
  have HB2 := hid (ext_trans HB.out hb2)
  have HE2 := hid (HE.out.below hb2)
  have r0 := HE2.out.cell 0 rfl
  have r1 := HE2.out.cell 1 rfl
  have r2 := HE2.out.cell 2 rfl
  have r3 := HE2.out.cell 3 rfl
  have r4 := HE2.out.cell 4 rfl
  have r5 := HE2.out.cell 5 rfl
  have r6 := HE2.out.cell 6 rfl
  clear hb2 HE HB
  go_wp2_with fail
  refine (HMA.out _ HEO.out T V S _ HB2.out).mono ?_
  rintro e' w3 ⟨rfl, hb3⟩
  rw [HN.out]
  have HB3 := hid (ext_trans HB2.out hb3)
  have HE3 := hid (HE2.out.below hb3)
  clear hb3 r0 r1 r2 r3 r4 r5 r6 HE2 HB2
  have r0 := HE3.out.cell 0 rfl
  have r1 := HE3.out.cell 1 rfl
  have r2 := HE3.out.cell 2 rfl
  have r3 := HE3.out.cell 3 rfl
  have r4 := HE3.out.cell 4 rfl
  have r5 := HE3.out.cell 5 rfl
  have r6 := HE3.out.cell 6 rfl
  go_wp2_with fail
  refine (HSA.out _).mono ?_
  rintro e' w4 ⟨rfl, hb4⟩
  have HB4 := hid (ext_trans HB3.out hb4)
  have HE4 := hid (HE3.out.below (Below.mono hb4 (Nat.le_refl _)))
  clear hb4 r0 r1 r2 r3 r4 r5 r6 HE3 HB3 HSA
  have HST2 := hid HST.out
  clear HST
  generalize stripeP ⟨kind, th, tx, at_, v, x, why⟩ S = sp at HST2 ⊢
  obtain ⟨s, is⟩ := sp
  have j6 : (is = true ∧ 0 ≤ s ∧ s < S) ∨ is = false := by
    cases is with
    | true => exact Or.inl ⟨rfl, HST2.out rfl⟩
    | false => exact Or.inr rfl
  clear HST2
  have r0 := HE4.out.cell 0 rfl
  have r1 := HE4.out.cell 1 rfl
  have r2 := HE4.out.cell 2 rfl
  have r3 := HE4.out.cell 3 rfl
  have r4 := HE4.out.cell 4 rfl
  have r5 := HE4.out.cell 5 rfl
  have r6 := HE4.out.cell 6 rfl
  have j7 : (is && (decide (s < 0) || decide (s ≥ S))) = false := by
    rcases j6 with ⟨rfl, h1, h2⟩ | rfl
    · simp; omega
    · rfl
  have HSI := hid j6
  clear j6
  have j8 : is = true → decide (s < 0) = false ∧ decide (s ≥ S) = false := by
    intro h
    rcases HSI.out with ⟨-, h1, h2⟩ | h0
    · exact ⟨decide_eq_false (by omega), decide_eq_false (by omega)⟩
    · rw [h0] at h; cases h
  cases is
  case' true =>
    obtain ⟨k1, k2⟩ := j8 rfl
  all_goals (
    clear j8 HSI
    go_wp2_with fail
    have HB5 : Hid (Below w.heap.size w (w4.alloc (.cells #[.int .u8 kind, .int .i64 (T + ra), .int .i64 tx, .int .i64 at_, .int .i64 v, .int .i64 x, .int .u8 why] 23))) := hid (ext_alloc HB4.out _)
    have HE5 : Hid (Blk (w4.alloc (.cells #[.int .u8 kind, .int .i64 (T + ra), .int .i64 tx, .int .i64 at_, .int .i64 v, .int .i64 x, .int .u8 why] 23)) w.heap.size #[.int .u8 kind, .int .i64 th, .int .i64 tx, .int .i64 at_, .int .i64 v, .int .i64 x, .int .u8 why] 23) := hid (HE4.out.alloc _)
    have HF5 : Hid (Blk (w4.alloc (.cells #[.int .u8 kind, .int .i64 (T + ra), .int .i64 tx, .int .i64 at_, .int .i64 v, .int .i64 x, .int .u8 why] 23)) w4.heap.size #[.int .u8 kind, .int .i64 (T + ra), .int .i64 tx, .int .i64 at_, .int .i64 v, .int .i64 x, .int .u8 why] 23) := hid (Blk.new _ _ _)
    generalize w4.alloc (.cells #[.int .u8 kind, .int .i64 (T + ra), .int .i64 tx, .int .i64 at_, .int .i64 v, .int .i64 x, .int .u8 why] 23) = w5 at HB5 HE5 HF5 ⊢
    clear r0 r1 r2 r3 r4 r5 r6 HE4 HB4
    apply wp_region_inv' (Cop w w5 #[.int .u8 kind, .int .i64 th, .int .i64 tx, .int .i64 at_, .int .i64 v, .int .i64 x, .int .u8 why] 23)
    focus (intro vals; simp [putAll, dstOf, Act.put]; rfl)
    case hm => kernel_rfl
    case hd => kernel_rfl
    case hb => kernel_rfl
    case hng => kernel_rfl
    case hsz => kernel_rfl
    case hext => exact fun l l' v w' h H => H.ext h
    case h0 => exact Cop.start (ext_drew HB5.out) (ext_drew (ext_refl _))
    case hstep =>
      refine ⟨?_, ?_, ?_, ?_, ?_, ?_, ?_, ?_, ?_, trivial⟩
      all_goals (
        intro l vs w' hi hd hJ
        refine ⟨(fun g b h => by cases h), fun _ ρ h1 h2 h3 h4 h5 => ?_⟩)
      · have f5 := h5 5 (by kernel_rfl)
        have HH := hid (HE5.out.below hJ.mid)
        have r0 := HH.out.cell 0 rfl
        have r1 := HH.out.cell 1 rfl
        have r2 := HH.out.cell 2 rfl
        have r3 := HH.out.cell 3 rfl
        have r4 := HH.out.cell 4 rfl
        have r5 := HH.out.cell 5 rfl
        have r6 := HH.out.cell 6 rfl
        have HJ := hid hJ
        clear hJ
        unfold OpY
        go_simp
        exact Cop.load 0 (by omega) HJ.out
      · have f5 := h5 5 (by kernel_rfl)
        have HH := hid (HE5.out.below hJ.mid)
        have r0 := HH.out.cell 0 rfl
        have r1 := HH.out.cell 1 rfl
        have r2 := HH.out.cell 2 rfl
        have r3 := HH.out.cell 3 rfl
        have r4 := HH.out.cell 4 rfl
        have r5 := HH.out.cell 5 rfl
        have r6 := HH.out.cell 6 rfl
        have HJ := hid hJ
        clear hJ
        unfold OpY
        go_simp
        exact Cop.load 1 (by omega) HJ.out
      · have f5 := h5 5 (by kernel_rfl)
        have HH := hid (HE5.out.below hJ.mid)
        have r0 := HH.out.cell 0 rfl
        have r1 := HH.out.cell 1 rfl
        have r2 := HH.out.cell 2 rfl
        have r3 := HH.out.cell 3 rfl
        have r4 := HH.out.cell 4 rfl
        have r5 := HH.out.cell 5 rfl
        have r6 := HH.out.cell 6 rfl
        have HJ := hid hJ
        clear hJ
        unfold OpY
        go_simp
        exact Cop.load 2 (by omega) HJ.out
      · have HJ := hid hJ
        clear hJ
        unfold OpY
        go_simp
        exact Cop.alloc rfl 0 (by omega) hi HJ.out
      · have HJ := hid hJ
        clear hJ
        unfold OpY
        go_simp
        exact Cop.alloc rfl 1 (by omega) hi HJ.out
      · have HJ := hid hJ
        clear hJ
        unfold OpY
        go_simp
        exact Cop.alloc rfl 2 (by omega) hi HJ.out
      · have g1 := hd 3 (by kernel_rfl)
        have g2 := hJ.lds 0 (by omega) (hd 0 (by kernel_rfl))
        obtain ⟨b, cs, g3, g4, g5, g6, -⟩ := hJ.als 0 (by omega) g1
        obtain ⟨c0, c1, c2, c3, c4, c5, c6, rfl⟩ := arr7 g6
        have f1 := (h4 3 14 (by kernel_rfl) (by kernel_rfl)).trans g3
        have f2 := (h4 0 49 (by kernel_rfl) (by kernel_rfl)).trans g2
        have HH := hid g5
        have z0 := HH.out.free 0
        have z1 := HH.out.free 1
        have z2 := HH.out.free 2
        have z3 := HH.out.free 3
        have z4 := HH.out.free 4
        have z5 := HH.out.free 5
        have z6 := HH.out.free 6
        have r0 := HH.out.cell 0 rfl
        have r1 := HH.out.cell 1 rfl
        have r2 := HH.out.cell 2 rfl
        have r3 := HH.out.cell 3 rfl
        have r4 := HH.out.cell 4 rfl
        have r5 := HH.out.cell 5 rfl
        have r6 := HH.out.cell 6 rfl
        have HJ := hid hJ
        have G3 := hid g3
        clear hJ g2 g3 g5
        unfold OpY
        go_simp
        exact Cop.store HB5.out.size 0 b (by omega) g1 G3.out HJ.out
      · have g1 := hd 4 (by kernel_rfl)
        have g2 := hJ.lds 1 (by omega) (hd 1 (by kernel_rfl))
        obtain ⟨b, cs, g3, g4, g5, g6, -⟩ := hJ.als 1 (by omega) g1
        obtain ⟨c0, c1, c2, c3, c4, c5, c6, rfl⟩ := arr7 g6
        have f1 := (h4 4 15 (by kernel_rfl) (by kernel_rfl)).trans g3
        have f2 := (h4 1 50 (by kernel_rfl) (by kernel_rfl)).trans g2
        have HH := hid g5
        have z0 := HH.out.free 0
        have z1 := HH.out.free 1
        have z2 := HH.out.free 2
        have z3 := HH.out.free 3
        have z4 := HH.out.free 4
        have z5 := HH.out.free 5
        have z6 := HH.out.free 6
        have r0 := HH.out.cell 0 rfl
        have r1 := HH.out.cell 1 rfl
        have r2 := HH.out.cell 2 rfl
        have r3 := HH.out.cell 3 rfl
        have r4 := HH.out.cell 4 rfl
        have r5 := HH.out.cell 5 rfl
        have r6 := HH.out.cell 6 rfl
        have HJ := hid hJ
        have G3 := hid g3
        clear hJ g2 g3 g5
        unfold OpY
        go_simp
        exact Cop.store HB5.out.size 1 b (by omega) g1 G3.out HJ.out
      · have g1 := hd 5 (by kernel_rfl)
        have g2 := hJ.lds 2 (by omega) (hd 2 (by kernel_rfl))
        obtain ⟨b, cs, g3, g4, g5, g6, -⟩ := hJ.als 2 (by omega) g1
        obtain ⟨c0, c1, c2, c3, c4, c5, c6, rfl⟩ := arr7 g6
        have f1 := (h4 5 16 (by kernel_rfl) (by kernel_rfl)).trans g3
        have f2 := (h4 2 51 (by kernel_rfl) (by kernel_rfl)).trans g2
        have HH := hid g5
        have z0 := HH.out.free 0
        have z1 := HH.out.free 1
        have z2 := HH.out.free 2
        have z3 := HH.out.free 3
        have z4 := HH.out.free 4
        have z5 := HH.out.free 5
        have z6 := HH.out.free 6
        have r0 := HH.out.cell 0 rfl
        have r1 := HH.out.cell 1 rfl
        have r2 := HH.out.cell 2 rfl
        have r3 := HH.out.cell 3 rfl
        have r4 := HH.out.cell 4 rfl
        have r5 := HH.out.cell 5 rfl
        have r6 := HH.out.cell 6 rfl
        have HJ := hid hJ
        have G3 := hid g3
        clear hJ g2 g3 g5
        unfold OpY
        go_simp
        exact Cop.store HB5.out.size 2 b (by omega) g1 G3.out HJ.out
    case hdone =>
      intro vs w6 hJ
      obtain ⟨b0, d0, e0, g0, k0, -, z0⟩ := hJ.als 0 (by omega) rfl
      obtain ⟨b1, d1, e1, g1, k1', -, z1⟩ := hJ.als 1 (by omega) rfl
      obtain ⟨b2, d2, e2, g2, k2', -, z2⟩ := hJ.als 2 (by omega) rfl
      obtain rfl := z0 rfl
      obtain rfl := z1 rfl
      obtain rfl := z2 rfl
      have n01 : b0 ≠ b1 := by
        rintro rfl
        exact hJ.far 0 1 (by omega) (by omega) (by omega) rfl rfl (e0.trans e1.symm)
      have n02 : b0 ≠ b2 := by
        rintro rfl
        exact hJ.far 0 2 (by omega) (by omega) (by omega) rfl rfl (e0.trans e2.symm)
      have n12 : b1 ≠ b2 := by
        rintro rfl
        exact hJ.far 1 2 (by omega) (by omega) (by omega) rfl rfl (e1.trans e2.symm)
      have e0 : vs 3 = _ := e0
      have e1 : vs 4 = _ := e1
      have e2 : vs 5 = _ := e2
      rw [e0, e1, e2]
      have HL6 := hid hJ.low
      have HE6 := hid (HE5.out.below hJ.mid)
      have HF6 := hid (HF5.out.below hJ.mid)
      have l1 : w.heap.size < w5.heap.size := HE5.out.lt
      have l2 : w4.heap.size < w5.heap.size := HF5.out.lt
      have HX0 := hid (k0.set 2 (.int .i64 (1 + rb)))
      have HX1 := hid ((k1'.set_other ⟨b0, 2, none⟩ (.int .i64 (1 + rb)) (Ne.symm n01)).set 5 (.int .i64 (1 + ra)))
      have HX2 := hid (((k2'.set_other ⟨b0, 2, none⟩ (.int .i64 (1 + rb)) (Ne.symm n02)).set_other ⟨b1, 5, none⟩ (.int .i64 (1 + ra)) (Ne.symm n12)).set 6 (.int .u8 (1 + rb)))
      have HY0 := hid ((HX0.out.set_other ⟨b1, 5, none⟩ (.int .i64 (1 + ra)) n01).set_other ⟨b2, 6, none⟩ (.int .u8 (1 + rb)) n02)
      have HY1 := hid (HX1.out.set_other ⟨b2, 6, none⟩ (.int .u8 (1 + rb)) n12)
      have HYE := hid (((HE6.out.set_other ⟨b0, 2, none⟩ (.int .i64 (1 + rb)) (by dsimp only; omega)).set_other ⟨b1, 5, none⟩ (.int .i64 (1 + ra)) (by dsimp only; omega)).set_other ⟨b2, 6, none⟩ (.int .u8 (1 + rb)) (by dsimp only; omega))
      have HYF := hid (((HF6.out.set_other ⟨b0, 2, none⟩ (.int .i64 (1 + rb)) (by dsimp only; omega)).set_other ⟨b1, 5, none⟩ (.int .i64 (1 + ra)) (by dsimp only; omega)).set_other ⟨b2, 6, none⟩ (.int .u8 (1 + rb)) (by dsimp only; omega))
      have HYL := hid (((HL6.out.setCell (p := ⟨b0, 2, none⟩) (by dsimp only; omega) (.int .i64 (1 + rb))).setCell (p := ⟨b1, 5, none⟩) (by dsimp only; omega) (.int .i64 (1 + ra))).setCell (p := ⟨b2, 6, none⟩) (by dsimp only; omega) (.int .u8 (1 + rb)))
      simp only [List.setIfInBounds_toArray, List.set_cons_succ, List.set_cons_zero] at HX0 HX1 HX2 HY0 HY1
      have c0 := k0.cell 2 rfl
      have c1 := (k1'.set_other ⟨b0, 2, none⟩ (.int .i64 (1 + rb)) (Ne.symm n01)).cell 5 rfl
      have c2 := ((k2'.set_other ⟨b0, 2, none⟩ (.int .i64 (1 + rb)) (Ne.symm n02)).set_other ⟨b1, 5, none⟩ (.int .i64 (1 + ra)) (Ne.symm n12)).cell 6 rfl
      have f0 := k0.free 2
      have f1 := (k1'.set_other ⟨b0, 2, none⟩ (.int .i64 (1 + rb)) (Ne.symm n01)).free 5
      have f2 := ((k2'.set_other ⟨b0, 2, none⟩ (.int .i64 (1 + rb)) (Ne.symm n02)).set_other ⟨b1, 5, none⟩ (.int .i64 (1 + ra)) (Ne.symm n12)).free 6
      have HN3 := hid (And.intro n01 (And.intro n02 n12))
      have HJJ := hid hJ
      clear hJ e0 e1 e2 z0 z1 z2 g0 g1 g2 k0 k1' k2' n01 n02 n12 l1 l2 HX0 HX1 HE6 HF6 HL6
      go_wp2_with fail
      generalize ((w6.setCell ⟨b0, 2, none⟩ (.int .i64 (1 + rb))).setCell ⟨b1, 5, none⟩ (.int .i64 (1 + ra))).setCell ⟨b2, 6, none⟩ (.int .u8 (1 + rb)) = w7 at HX2 HY0 HY1 HYE HYF HYL ⊢
      clear c0 c1 c2 f0 f1 f2
      have hrc := HR.out
      have hsz := HSZ.out
      have eo := HEO.out
      unfold EvOk at eo
      dsimp only at eo
      have HMF := hid (fun W hW => HMA.out ⟨kind, T + ra, tx, at_, v, x, why⟩ (by unfold EvOk; dsimp only; omega) T V S W hW)
      have HMT := hid (fun W hW => HMA.out ⟨kind, th, 1 + rb, at_, v, x, why⟩ (by unfold EvOk; dsimp only; omega) T V S W hW)
      have HMX := hid (fun W hW => HMA.out ⟨kind, th, tx, at_, v, 1 + ra, why⟩ (by unfold EvOk; dsimp only; omega) T V S W hW)
      have HMY := hid (fun W hW => HMA.out ⟨kind, th, tx, at_, v, x, 1 + rb⟩ (by unfold EvOk; dsimp only; omega) T V S W hW)
      obtain ⟨p1, hp1⟩ : ∃ p, (kind == 1) = p := ⟨_, rfl⟩
      obtain ⟨p3, hp3⟩ : ∃ p, (kind == 3) = p := ⟨_, rfl⟩
      obtain ⟨p8, hp8⟩ : ∃ p, (kind == 8) = p := ⟨_, rfl⟩
      obtain ⟨p10, hp10⟩ : ∃ p, (kind == 10) = p := ⟨_, rfl⟩
      have q1 : mayE ⟨kind, T + ra, tx, at_, v, x, why⟩ T V S = false := just_far (e := ⟨kind, th, tx, at_, v, x, why⟩) (by omega)
      have q2 : mayE ⟨kind, th, 1 + rb, at_, v, x, why⟩ T V S = p1 := (just_tx HN.out (by omega) (by omega)).trans (by rw [← hp1]; exact (Int.decide_eq_beq' kind 1))
      have q3 : mayE ⟨kind, th, tx, at_, v, 1 + ra, why⟩ T V S = (p3 || p8) := (just_x HN.out (by omega)).trans (by rw [← hp3, ← hp8]; dsimp only; by_cases a1 : kind = 3 <;> by_cases a2 : kind = 8 <;> simp [a1, a2])
      have q4 : mayE ⟨kind, th, tx, at_, v, x, 1 + rb⟩ T V S = p10 := (just_why HN.out (by omega) (by omega)).trans (by rw [← hp10]; exact (Int.decide_eq_beq' kind 10))
      simp only [q1] at HMF
      simp only [q2] at HMT
      simp only [q3] at HMX
      simp only [q4] at HMY
      dsimp only [evA] at HMF HMT HMX HMY
      clear q1 q2 q3 q4 hrc hsz eo HMA HEO HN HR HSZ
      clear hra hrb jt jb ja jw jv
      have HA1 := hid (HA.out)
      cases p3
      · apply wp_region_vals' [.agg #[.int .u8 kind, .int .i64 (T + ra), .int .i64 tx, .int .i64 at_, .int .i64 v, .int .i64 x, .int .u8 why], .int .i64 T, .int .i64 V, .int .i64 S, .bool false, .bool false, .agg #[.int .u8 kind, .int .i64 th, .int .i64 (1 + rb), .int .i64 at_, .int .i64 v, .int .i64 x, .int .u8 why], .int .i64 T, .int .i64 V, .int .i64 S, .bool p1, .pointer (some ⟨w.heap.size, 0, none⟩), .int .u8 kind, .bool p1, .bool false, .bool false, .bool false, .agg #[.int .u8 kind, .int .i64 th, .int .i64 tx, .int .i64 at_, .int .i64 v, .int .i64 (1 + ra), .int .u8 why], .int .i64 T, .int .i64 V, .int .i64 S, .bool p8, .pointer (some ⟨w.heap.size, 0, none⟩), .int .u8 kind, .bool false, .bool false, .pointer (some ⟨w.heap.size, 0, none⟩), .int .u8 kind, .bool p8, .bool p8, .bool false, .bool false] (fun w' => Below w7.heap.size w7 w')
        focus (simp [putAll, dstOf, Act.put, List.getD]; rfl)
        case hm => kernel_rfl
        case hd => kernel_rfl
        case hb => kernel_rfl
        case hdep => kernel_rfl
        case hsel => kernel_rfl
        case hsz => kernel_rfl
        case h0 => exact ext_drew (ext_refl _)
        case hstep =>
          repeat' (first | exact trivial | (refine And.intro ?_ ?_))
          all_goals (
            intro w' hG
            first
            | (rw [if_neg (ne_true_of_eq_false (by kernel_rfl))]; rfl)
            | (rw [if_pos (by kernel_rfl)]
               intro K Qp hK
               have xe := (HYE.out.below hG).cell 0 rfl
               have xf0 := (HYF.out.below hG).cell 0 rfl
               have xf1 := (HYF.out.below hG).cell 1 rfl
               have xf2 := (HYF.out.below hG).cell 2 rfl
               have xf3 := (HYF.out.below hG).cell 3 rfl
               have xf4 := (HYF.out.below hG).cell 4 rfl
               have xf5 := (HYF.out.below hG).cell 5 rfl
               have xf6 := (HYF.out.below hG).cell 6 rfl
               have xx0 := (HY0.out.below hG).cell 0 rfl
               have xx1 := (HY0.out.below hG).cell 1 rfl
               have xx2 := (HY0.out.below hG).cell 2 rfl
               have xx3 := (HY0.out.below hG).cell 3 rfl
               have xx4 := (HY0.out.below hG).cell 4 rfl
               have xx5 := (HY0.out.below hG).cell 5 rfl
               have xx6 := (HY0.out.below hG).cell 6 rfl
               have xy0 := (HY1.out.below hG).cell 0 rfl
               have xy1 := (HY1.out.below hG).cell 1 rfl
               have xy2 := (HY1.out.below hG).cell 2 rfl
               have xy3 := (HY1.out.below hG).cell 3 rfl
               have xy4 := (HY1.out.below hG).cell 4 rfl
               have xy5 := (HY1.out.below hG).cell 5 rfl
               have xy6 := (HY1.out.below hG).cell 6 rfl
               have HGG := hid hG
               have HGL := hid (ext_trans HYL.out hG)
               clear hG
               go_simp
               first
               | exact hK _ HGG.out
               | (first | (with_reducible refine (HMF.out _ HGL.out).mono ?_) | (with_reducible refine (HMT.out _ HGL.out).mono ?_) | (with_reducible refine (HMX.out _ HGL.out).mono ?_) | (with_reducible refine (HMY.out _ HGL.out).mono ?_)
                  rintro e' w8 ⟨rfl, hb8⟩
                  exact hK _ (ext_trans HGG.out hb8))
               | (go_wp2_with fail
                  exact hK _ HGG.out)))
        case hdone =>
          intro w8 hG
          have HZ2 := hid (HX2.out.below hG)
          have HZE := hid (HYE.out.below hG)
          have HZL := hid (ext_trans HYL.out hG)
          clear hG HX2 HY0 HY1 HYE HYF HYL
          go_wp2_with fail
          apply wp_region_vals' [.agg #[.int .u8 kind, .int .i64 th, .int .i64 tx, .int .i64 at_, .int .i64 v, .int .i64 x, .int .u8 (1 + rb)], .int .i64 T, .int .i64 V, .int .i64 S, .bool p10, .pointer (some ⟨w.heap.size, 0, none⟩), .int .u8 kind, .bool p10, .bool true, .bool true] (fun w' => Below w8.heap.size w8 w')
          focus (simp [putAll, dstOf, Act.put, List.getD]; rfl)
          case hm => kernel_rfl
          case hd => kernel_rfl
          case hb => kernel_rfl
          case hdep => kernel_rfl
          case hsel => kernel_rfl
          case hsz => kernel_rfl
          case h0 => exact ext_drew (ext_refl _)
          case hstep =>
            repeat' (first | exact trivial | (refine And.intro ?_ ?_))
            all_goals (
              intro w' hG
              first
              | (rw [if_neg (ne_true_of_eq_false (by kernel_rfl))]; rfl)
              | (rw [if_pos (by kernel_rfl)]
                 intro K Qp hK
                 have xe := (HZE.out.below hG).cell 0 rfl
                 have xz0 := (HZ2.out.below hG).cell 0 rfl
                 have xz1 := (HZ2.out.below hG).cell 1 rfl
                 have xz2 := (HZ2.out.below hG).cell 2 rfl
                 have xz3 := (HZ2.out.below hG).cell 3 rfl
                 have xz4 := (HZ2.out.below hG).cell 4 rfl
                 have xz5 := (HZ2.out.below hG).cell 5 rfl
                 have xz6 := (HZ2.out.below hG).cell 6 rfl
                 have HGG := hid hG
                 have HGL := hid (ext_trans HZL.out hG)
                 clear hG
                 go_simp
                 first
                 | exact hK _ HGG.out
                 | (first | (with_reducible refine (HMF.out _ HGL.out).mono ?_) | (with_reducible refine (HMT.out _ HGL.out).mono ?_) | (with_reducible refine (HMX.out _ HGL.out).mono ?_) | (with_reducible refine (HMY.out _ HGL.out).mono ?_)
                    rintro e' w8 ⟨rfl, hb8⟩
                    exact hK _ (ext_trans HGG.out hb8))
                 | (go_wp2_with fail
                    exact hK _ HGG.out)))
          case hdone =>
            intro w9 hG
            have HZZ := hid (ext_trans HZL.out hG)
            clear hG
            go_wp2_with fail
            go_ret
            exact ⟨rfl, HZZ.out⟩
      · apply wp_region_vals' [.agg #[.int .u8 kind, .int .i64 (T + ra), .int .i64 tx, .int .i64 at_, .int .i64 v, .int .i64 x, .int .u8 why], .int .i64 T, .int .i64 V, .int .i64 S, .bool false, .bool false, .agg #[.int .u8 kind, .int .i64 th, .int .i64 (1 + rb), .int .i64 at_, .int .i64 v, .int .i64 x, .int .u8 why], .int .i64 T, .int .i64 V, .int .i64 S, .bool p1, .pointer (some ⟨w.heap.size, 0, none⟩), .int .u8 kind, .bool p1, .bool false, .bool false, .bool false, .agg #[.int .u8 kind, .int .i64 th, .int .i64 tx, .int .i64 at_, .int .i64 v, .int .i64 (1 + ra), .int .u8 why], .int .i64 T, .int .i64 V, .int .i64 S, .bool true, .pointer (some ⟨w.heap.size, 0, none⟩), .int .u8 kind, .bool true, .bool true, undef, undef, undef, .bool true, .bool false, .bool false] (fun w' => Below w7.heap.size w7 w')
        focus (simp [putAll, dstOf, Act.put, List.getD]; rfl)
        case hm => kernel_rfl
        case hd => kernel_rfl
        case hb => kernel_rfl
        case hdep => kernel_rfl
        case hsel => kernel_rfl
        case hsz => kernel_rfl
        case h0 => exact ext_drew (ext_refl _)
        case hstep =>
          repeat' (first | exact trivial | (refine And.intro ?_ ?_))
          all_goals (
            intro w' hG
            first
            | (rw [if_neg (ne_true_of_eq_false (by kernel_rfl))]; rfl)
            | (rw [if_pos (by kernel_rfl)]
               intro K Qp hK
               have xe := (HYE.out.below hG).cell 0 rfl
               have xf0 := (HYF.out.below hG).cell 0 rfl
               have xf1 := (HYF.out.below hG).cell 1 rfl
               have xf2 := (HYF.out.below hG).cell 2 rfl
               have xf3 := (HYF.out.below hG).cell 3 rfl
               have xf4 := (HYF.out.below hG).cell 4 rfl
               have xf5 := (HYF.out.below hG).cell 5 rfl
               have xf6 := (HYF.out.below hG).cell 6 rfl
               have xx0 := (HY0.out.below hG).cell 0 rfl
               have xx1 := (HY0.out.below hG).cell 1 rfl
               have xx2 := (HY0.out.below hG).cell 2 rfl
               have xx3 := (HY0.out.below hG).cell 3 rfl
               have xx4 := (HY0.out.below hG).cell 4 rfl
               have xx5 := (HY0.out.below hG).cell 5 rfl
               have xx6 := (HY0.out.below hG).cell 6 rfl
               have xy0 := (HY1.out.below hG).cell 0 rfl
               have xy1 := (HY1.out.below hG).cell 1 rfl
               have xy2 := (HY1.out.below hG).cell 2 rfl
               have xy3 := (HY1.out.below hG).cell 3 rfl
               have xy4 := (HY1.out.below hG).cell 4 rfl
               have xy5 := (HY1.out.below hG).cell 5 rfl
               have xy6 := (HY1.out.below hG).cell 6 rfl
               have HGG := hid hG
               have HGL := hid (ext_trans HYL.out hG)
               clear hG
               go_simp
               first
               | exact hK _ HGG.out
               | (first | (with_reducible refine (HMF.out _ HGL.out).mono ?_) | (with_reducible refine (HMT.out _ HGL.out).mono ?_) | (with_reducible refine (HMX.out _ HGL.out).mono ?_) | (with_reducible refine (HMY.out _ HGL.out).mono ?_)
                  rintro e' w8 ⟨rfl, hb8⟩
                  exact hK _ (ext_trans HGG.out hb8))
               | (go_wp2_with fail
                  exact hK _ HGG.out)))
        case hdone =>
          intro w8 hG
          have HZ2 := hid (HX2.out.below hG)
          have HZE := hid (HYE.out.below hG)
          have HZL := hid (ext_trans HYL.out hG)
          clear hG HX2 HY0 HY1 HYE HYF HYL
          go_wp2_with fail
          apply wp_region_vals' [.agg #[.int .u8 kind, .int .i64 th, .int .i64 tx, .int .i64 at_, .int .i64 v, .int .i64 x, .int .u8 (1 + rb)], .int .i64 T, .int .i64 V, .int .i64 S, .bool p10, .pointer (some ⟨w.heap.size, 0, none⟩), .int .u8 kind, .bool p10, .bool true, .bool true] (fun w' => Below w8.heap.size w8 w')
          focus (simp [putAll, dstOf, Act.put, List.getD]; rfl)
          case hm => kernel_rfl
          case hd => kernel_rfl
          case hb => kernel_rfl
          case hdep => kernel_rfl
          case hsel => kernel_rfl
          case hsz => kernel_rfl
          case h0 => exact ext_drew (ext_refl _)
          case hstep =>
            repeat' (first | exact trivial | (refine And.intro ?_ ?_))
            all_goals (
              intro w' hG
              first
              | (rw [if_neg (ne_true_of_eq_false (by kernel_rfl))]; rfl)
              | (rw [if_pos (by kernel_rfl)]
                 intro K Qp hK
                 have xe := (HZE.out.below hG).cell 0 rfl
                 have xz0 := (HZ2.out.below hG).cell 0 rfl
                 have xz1 := (HZ2.out.below hG).cell 1 rfl
                 have xz2 := (HZ2.out.below hG).cell 2 rfl
                 have xz3 := (HZ2.out.below hG).cell 3 rfl
                 have xz4 := (HZ2.out.below hG).cell 4 rfl
                 have xz5 := (HZ2.out.below hG).cell 5 rfl
                 have xz6 := (HZ2.out.below hG).cell 6 rfl
                 have HGG := hid hG
                 have HGL := hid (ext_trans HZL.out hG)
                 clear hG
                 go_simp
                 first
                 | exact hK _ HGG.out
                 | (first | (with_reducible refine (HMF.out _ HGL.out).mono ?_) | (with_reducible refine (HMT.out _ HGL.out).mono ?_) | (with_reducible refine (HMX.out _ HGL.out).mono ?_) | (with_reducible refine (HMY.out _ HGL.out).mono ?_)
                    rintro e' w8 ⟨rfl, hb8⟩
                    exact hK _ (ext_trans HGG.out hb8))
                 | (go_wp2_with fail
                    exact hK _ HGG.out)))
          case hdone =>
            intro w9 hG
            have HZZ := hid (ext_trans HZL.out hG)
            clear hG
            go_wp2_with fail
            go_ret
            exact ⟨rfl, HZZ.out⟩)
theorem just_any (e : Ev) (T V S n : Int) (w : World) (he : EvOk e) (hSi : -9223372036854775808 ≤ S ∧ S ≤ 9223372036854775807) (hS : Std w) :
    Calls Tryd.prog 8 #[evA e, .int .i64 T, .int .i64 V, .int .i64 S, .int .i64 n] w fun e' w' => e' = .returned (.bool true) ∧ Below w.heap.size w w' := by
  cases hm : mayE e T V S with
  | true => exact just_yes e T V S n w he hSi hS hm
  | false => exact just_no e T V S n w he hS hm
end Go.Proofs.YtlbpollckiidlaaDoor
