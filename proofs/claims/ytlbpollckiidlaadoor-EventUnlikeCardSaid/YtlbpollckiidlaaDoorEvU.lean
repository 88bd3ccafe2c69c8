/-
  Walk: the law EventUnlike.
-/
import Derived.Test.YtlbpollckiidlaaDoorEvW6
namespace Go.Proofs.YtlbpollckiidlaaDoor
set_option linter.unusedVariables false
set_option linter.unusedSimpArgs false
open Go Go.RowKit
theorem unlike_eq {e d : Ev} (h1 : mayT e = true) (h2 : mayT d = true) (he : EvOk e) (hd : EvOk d) :
    (showT e == showT d) = (decide (e.kind = d.kind) && decide (e.th = d.th) && decide (e.tx = d.tx) && decide (e.at_ = d.at_) && decide (e.v = d.v) && decide (e.x = d.x) && decide (e.why = d.why)) := by
  by_cases h : e = d
  · subst h; simp
  · have hn : showT e ≠ showT d := fun hh => h (showT_inj h1 h2 ⟨he.2.2.1, he.2.2.2.1, he.2.2.2.2.1, he.2.2.2.2.2.1, he.2.2.2.2.2.2⟩ ⟨hd.2.2.1, hd.2.2.2.1, hd.2.2.2.2.1, hd.2.2.2.2.2.1, hd.2.2.2.2.2.2⟩ hh)
    rw [beq_eq_false_iff_ne.2 hn]
    symm
    rw [Bool.eq_false_iff]
    intro hh
    simp only [Bool.and_eq_true, decide_eq_true_eq] at hh
    obtain ⟨⟨⟨⟨⟨⟨a1, a2⟩, a3⟩, a4⟩, a5⟩, a6⟩, a7⟩ := hh
    exact h (by cases e; cases d; simp_all)
set_option maxRecDepth 100000 in
set_option maxHeartbeats 4000000 in
theorem unlike_no1 (e d : Ev) (w : World) (he : EvOk e) (hd : EvOk d) (hS : Std w) (h1 : mayT e = false) (h2 : mayT d = false) :
    Calls Tryd.prog 6 #[evA e, evA d] w fun e' w' => e' = .returned (.bool true) ∧ Below w.heap.size w w' := by
  have HA := hid (fun W (hW : Below w.heap.size w W) => awake_any W (hS.below hW))
  have HE := hid (fun W (hW : Below w.heap.size w W) => show_any e W he (hS.below hW))
  have HD := hid (fun W (hW : Below w.heap.size w W) => show_any d W hd (hS.below hW))
  have e1 : showR e = ([], 4) := by unfold showR; rw [h1]; rfl
  have e2 : showR d = ([], 4) := by unfold showR; rw [h2]; rfl
  rw [e1] at HE
  rw [e2] at HD
  clear e1 e2
  obtain ⟨kind, th, tx, at_, v, x, why⟩ := e
  obtain ⟨kind2, th2, tx2, at2, v2, x2, why2⟩ := d
  clear he hd hS h1 h2
  dsimp only [evA, strV] at HE HD ⊢
  have HB : Hid (Below w.heap.size w ((w.alloc (.cells #[.int .u8 kind, .int .i64 th, .int .i64 tx, .int .i64 at_, .int .i64 v, .int .i64 x, .int .u8 why] 23)).alloc (.cells #[.int .u8 kind2, .int .i64 th2, .int .i64 tx2, .int .i64 at2, .int .i64 v2, .int .i64 x2, .int .u8 why2] 23))) := hid (ext_alloc (ext_alloc (ext_refl _) _) _)
  have B1 : Hid (Blk ((w.alloc (.cells #[.int .u8 kind, .int .i64 th, .int .i64 tx, .int .i64 at_, .int .i64 v, .int .i64 x, .int .u8 why] 23)).alloc (.cells #[.int .u8 kind2, .int .i64 th2, .int .i64 tx2, .int .i64 at2, .int .i64 v2, .int .i64 x2, .int .u8 why2] 23)) w.heap.size #[.int .u8 kind, .int .i64 th, .int .i64 tx, .int .i64 at_, .int .i64 v, .int .i64 x, .int .u8 why] 23) := hid ((Blk.new _ _ _).alloc _)
  have B2 : Hid (Blk ((w.alloc (.cells #[.int .u8 kind, .int .i64 th, .int .i64 tx, .int .i64 at_, .int .i64 v, .int .i64 x, .int .u8 why] 23)).alloc (.cells #[.int .u8 kind2, .int .i64 th2, .int .i64 tx2, .int .i64 at2, .int .i64 v2, .int .i64 x2, .int .u8 why2] 23)) (w.heap.size + 1) #[.int .u8 kind2, .int .i64 th2, .int .i64 tx2, .int .i64 at2, .int .i64 v2, .int .i64 x2, .int .u8 why2] 23) := hid (Blk.new' _ _ _ (Array.size_push ..).symm)
  go_enter Tryd.func6, Tryd.ntmps6
  go_wp2_with fail
  refine (HA.out _ HB.out).mono ?_
  rintro e' w2 ⟨rfl, hb2⟩
  have HB2 := hid (ext_trans HB.out hb2)
  have r0 := later hb2 (B1.out.cell 0 rfl)
  have q0 := later hb2 (B2.out.cell 0 rfl)
  have r1 := later hb2 (B1.out.cell 1 rfl)
  have q1 := later hb2 (B2.out.cell 1 rfl)
  have r2 := later hb2 (B1.out.cell 2 rfl)
  have q2 := later hb2 (B2.out.cell 2 rfl)
  have r3 := later hb2 (B1.out.cell 3 rfl)
  have q3 := later hb2 (B2.out.cell 3 rfl)
  have r4 := later hb2 (B1.out.cell 4 rfl)
  have q4 := later hb2 (B2.out.cell 4 rfl)
  have r5 := later hb2 (B1.out.cell 5 rfl)
  have q5 := later hb2 (B2.out.cell 5 rfl)
  have r6 := later hb2 (B1.out.cell 6 rfl)
  have q6 := later hb2 (B2.out.cell 6 rfl)
  clear hb2
  go_wp2_with fail
  refine (HE.out _ HB2.out).mono ?_
  rintro e' w3 ⟨rfl, hb3⟩
  have HB3 := hid (ext_trans HB2.out hb3)
  have s0 := later hb3 r0
  have t0 := later hb3 q0
  have s1 := later hb3 r1
  have t1 := later hb3 q1
  have s2 := later hb3 r2
  have t2 := later hb3 q2
  have s3 := later hb3 r3
  have t3 := later hb3 q3
  have s4 := later hb3 r4
  have t4 := later hb3 q4
  have s5 := later hb3 r5
  have t5 := later hb3 q5
  have s6 := later hb3 r6
  have t6 := later hb3 q6
  clear hb3 r0 r1 r2 r3 r4 r5 r6 q0 q1 q2 q3 q4 q5 q6
  go_wp2_with fail
  refine (HD.out _ HB3.out).mono ?_
  rintro e' w4 ⟨rfl, hb4⟩
  have HB4 := hid (ext_trans HB3.out hb4)
  have r0 := later hb4 s0
  have q0 := later hb4 t0
  have r1 := later hb4 s1
  have q1 := later hb4 t1
  have r2 := later hb4 s2
  have q2 := later hb4 t2
  have r3 := later hb4 s3
  have q3 := later hb4 t3
  have r4 := later hb4 s4
  have q4 := later hb4 t4
  have r5 := later hb4 s5
  have q5 := later hb4 t5
  have r6 := later hb4 s6
  have q6 := later hb4 t6
  clear hb4 s0 s1 s2 s3 s4 s5 s6 t0 t1 t2 t3 t4 t5 t6
  go_wp2_with fail
  go_ret
  exact ⟨rfl, HB4.out⟩
set_option maxRecDepth 100000 in
set_option maxHeartbeats 4000000 in
theorem unlike_no2 (e d : Ev) (w : World) (he : EvOk e) (hd : EvOk d) (hS : Std w) (h1 : mayT e = false) (h2 : mayT d = true) :
    Calls Tryd.prog 6 #[evA e, evA d] w fun e' w' => e' = .returned (.bool true) ∧ Below w.heap.size w w' := by
  have HA := hid (fun W (hW : Below w.heap.size w W) => awake_any W (hS.below hW))
  have HE := hid (fun W (hW : Below w.heap.size w W) => show_any e W he (hS.below hW))
  have HD := hid (fun W (hW : Below w.heap.size w W) => show_any d W hd (hS.below hW))
  have e1 : showR e = ([], 4) := by unfold showR; rw [h1]; rfl
  have e2 : showR d = (showT d, 0) := by unfold showR; rw [h2]; rfl
  rw [e1] at HE
  rw [e2] at HD
  clear e1 e2
  generalize showT d = sd at HD
  obtain ⟨kind, th, tx, at_, v, x, why⟩ := e
  obtain ⟨kind2, th2, tx2, at2, v2, x2, why2⟩ := d
  clear he hd hS h1 h2
  dsimp only [evA, strV] at HE HD ⊢
  have HB : Hid (Below w.heap.size w ((w.alloc (.cells #[.int .u8 kind, .int .i64 th, .int .i64 tx, .int .i64 at_, .int .i64 v, .int .i64 x, .int .u8 why] 23)).alloc (.cells #[.int .u8 kind2, .int .i64 th2, .int .i64 tx2, .int .i64 at2, .int .i64 v2, .int .i64 x2, .int .u8 why2] 23))) := hid (ext_alloc (ext_alloc (ext_refl _) _) _)
  have B1 : Hid (Blk ((w.alloc (.cells #[.int .u8 kind, .int .i64 th, .int .i64 tx, .int .i64 at_, .int .i64 v, .int .i64 x, .int .u8 why] 23)).alloc (.cells #[.int .u8 kind2, .int .i64 th2, .int .i64 tx2, .int .i64 at2, .int .i64 v2, .int .i64 x2, .int .u8 why2] 23)) w.heap.size #[.int .u8 kind, .int .i64 th, .int .i64 tx, .int .i64 at_, .int .i64 v, .int .i64 x, .int .u8 why] 23) := hid ((Blk.new _ _ _).alloc _)
  have B2 : Hid (Blk ((w.alloc (.cells #[.int .u8 kind, .int .i64 th, .int .i64 tx, .int .i64 at_, .int .i64 v, .int .i64 x, .int .u8 why] 23)).alloc (.cells #[.int .u8 kind2, .int .i64 th2, .int .i64 tx2, .int .i64 at2, .int .i64 v2, .int .i64 x2, .int .u8 why2] 23)) (w.heap.size + 1) #[.int .u8 kind2, .int .i64 th2, .int .i64 tx2, .int .i64 at2, .int .i64 v2, .int .i64 x2, .int .u8 why2] 23) := hid (Blk.new' _ _ _ (Array.size_push ..).symm)
  go_enter Tryd.func6, Tryd.ntmps6
  go_wp2_with fail
  refine (HA.out _ HB.out).mono ?_
  rintro e' w2 ⟨rfl, hb2⟩
  have HB2 := hid (ext_trans HB.out hb2)
  have r0 := later hb2 (B1.out.cell 0 rfl)
  have q0 := later hb2 (B2.out.cell 0 rfl)
  have r1 := later hb2 (B1.out.cell 1 rfl)
  have q1 := later hb2 (B2.out.cell 1 rfl)
  have r2 := later hb2 (B1.out.cell 2 rfl)
  have q2 := later hb2 (B2.out.cell 2 rfl)
  have r3 := later hb2 (B1.out.cell 3 rfl)
  have q3 := later hb2 (B2.out.cell 3 rfl)
  have r4 := later hb2 (B1.out.cell 4 rfl)
  have q4 := later hb2 (B2.out.cell 4 rfl)
  have r5 := later hb2 (B1.out.cell 5 rfl)
  have q5 := later hb2 (B2.out.cell 5 rfl)
  have r6 := later hb2 (B1.out.cell 6 rfl)
  have q6 := later hb2 (B2.out.cell 6 rfl)
  clear hb2
  go_wp2_with fail
  refine (HE.out _ HB2.out).mono ?_
  rintro e' w3 ⟨rfl, hb3⟩
  have HB3 := hid (ext_trans HB2.out hb3)
  have s0 := later hb3 r0
  have t0 := later hb3 q0
  have s1 := later hb3 r1
  have t1 := later hb3 q1
  have s2 := later hb3 r2
  have t2 := later hb3 q2
  have s3 := later hb3 r3
  have t3 := later hb3 q3
  have s4 := later hb3 r4
  have t4 := later hb3 q4
  have s5 := later hb3 r5
  have t5 := later hb3 q5
  have s6 := later hb3 r6
  have t6 := later hb3 q6
  clear hb3 r0 r1 r2 r3 r4 r5 r6 q0 q1 q2 q3 q4 q5 q6
  go_wp2_with fail
  refine (HD.out _ HB3.out).mono ?_
  rintro e' w4 ⟨rfl, hb4⟩
  have HB4 := hid (ext_trans HB3.out hb4)
  have r0 := later hb4 s0
  have q0 := later hb4 t0
  have r1 := later hb4 s1
  have q1 := later hb4 t1
  have r2 := later hb4 s2
  have q2 := later hb4 t2
  have r3 := later hb4 s3
  have q3 := later hb4 t3
  have r4 := later hb4 s4
  have q4 := later hb4 t4
  have r5 := later hb4 s5
  have q5 := later hb4 t5
  have r6 := later hb4 s6
  have q6 := later hb4 t6
  clear hb4 s0 s1 s2 s3 s4 s5 s6 t0 t1 t2 t3 t4 t5 t6
  go_wp2_with fail
  go_ret
  exact ⟨rfl, HB4.out⟩
set_option maxRecDepth 100000 in
set_option maxHeartbeats 4000000 in
theorem unlike_no3 (e d : Ev) (w : World) (he : EvOk e) (hd : EvOk d) (hS : Std w) (h1 : mayT e = true) (h2 : mayT d = false) :
    Calls Tryd.prog 6 #[evA e, evA d] w fun e' w' => e' = .returned (.bool true) ∧ Below w.heap.size w w' := by
  have HA := hid (fun W (hW : Below w.heap.size w W) => awake_any W (hS.below hW))
  have HE := hid (fun W (hW : Below w.heap.size w W) => show_any e W he (hS.below hW))
  have HD := hid (fun W (hW : Below w.heap.size w W) => show_any d W hd (hS.below hW))
  have e1 : showR e = (showT e, 0) := by unfold showR; rw [h1]; rfl
  have e2 : showR d = ([], 4) := by unfold showR; rw [h2]; rfl
  rw [e1] at HE
  rw [e2] at HD
  clear e1 e2
  generalize showT e = se at HE
  obtain ⟨kind, th, tx, at_, v, x, why⟩ := e
  obtain ⟨kind2, th2, tx2, at2, v2, x2, why2⟩ := d
  clear he hd hS h1 h2
  dsimp only [evA, strV] at HE HD ⊢
  have HB : Hid (Below w.heap.size w ((w.alloc (.cells #[.int .u8 kind, .int .i64 th, .int .i64 tx, .int .i64 at_, .int .i64 v, .int .i64 x, .int .u8 why] 23)).alloc (.cells #[.int .u8 kind2, .int .i64 th2, .int .i64 tx2, .int .i64 at2, .int .i64 v2, .int .i64 x2, .int .u8 why2] 23))) := hid (ext_alloc (ext_alloc (ext_refl _) _) _)
  have B1 : Hid (Blk ((w.alloc (.cells #[.int .u8 kind, .int .i64 th, .int .i64 tx, .int .i64 at_, .int .i64 v, .int .i64 x, .int .u8 why] 23)).alloc (.cells #[.int .u8 kind2, .int .i64 th2, .int .i64 tx2, .int .i64 at2, .int .i64 v2, .int .i64 x2, .int .u8 why2] 23)) w.heap.size #[.int .u8 kind, .int .i64 th, .int .i64 tx, .int .i64 at_, .int .i64 v, .int .i64 x, .int .u8 why] 23) := hid ((Blk.new _ _ _).alloc _)
  have B2 : Hid (Blk ((w.alloc (.cells #[.int .u8 kind, .int .i64 th, .int .i64 tx, .int .i64 at_, .int .i64 v, .int .i64 x, .int .u8 why] 23)).alloc (.cells #[.int .u8 kind2, .int .i64 th2, .int .i64 tx2, .int .i64 at2, .int .i64 v2, .int .i64 x2, .int .u8 why2] 23)) (w.heap.size + 1) #[.int .u8 kind2, .int .i64 th2, .int .i64 tx2, .int .i64 at2, .int .i64 v2, .int .i64 x2, .int .u8 why2] 23) := hid (Blk.new' _ _ _ (Array.size_push ..).symm)
  go_enter Tryd.func6, Tryd.ntmps6
  go_wp2_with fail
  refine (HA.out _ HB.out).mono ?_
  rintro e' w2 ⟨rfl, hb2⟩
  have HB2 := hid (ext_trans HB.out hb2)
  have r0 := later hb2 (B1.out.cell 0 rfl)
  have q0 := later hb2 (B2.out.cell 0 rfl)
  have r1 := later hb2 (B1.out.cell 1 rfl)
  have q1 := later hb2 (B2.out.cell 1 rfl)
  have r2 := later hb2 (B1.out.cell 2 rfl)
  have q2 := later hb2 (B2.out.cell 2 rfl)
  have r3 := later hb2 (B1.out.cell 3 rfl)
  have q3 := later hb2 (B2.out.cell 3 rfl)
  have r4 := later hb2 (B1.out.cell 4 rfl)
  have q4 := later hb2 (B2.out.cell 4 rfl)
  have r5 := later hb2 (B1.out.cell 5 rfl)
  have q5 := later hb2 (B2.out.cell 5 rfl)
  have r6 := later hb2 (B1.out.cell 6 rfl)
  have q6 := later hb2 (B2.out.cell 6 rfl)
  clear hb2
  go_wp2_with fail
  refine (HE.out _ HB2.out).mono ?_
  rintro e' w3 ⟨rfl, hb3⟩
  have HB3 := hid (ext_trans HB2.out hb3)
  have s0 := later hb3 r0
  have t0 := later hb3 q0
  have s1 := later hb3 r1
  have t1 := later hb3 q1
  have s2 := later hb3 r2
  have t2 := later hb3 q2
  have s3 := later hb3 r3
  have t3 := later hb3 q3
  have s4 := later hb3 r4
  have t4 := later hb3 q4
  have s5 := later hb3 r5
  have t5 := later hb3 q5
  have s6 := later hb3 r6
  have t6 := later hb3 q6
  clear hb3 r0 r1 r2 r3 r4 r5 r6 q0 q1 q2 q3 q4 q5 q6
  go_wp2_with fail
  refine (HD.out _ HB3.out).mono ?_
  rintro e' w4 ⟨rfl, hb4⟩
  have HB4 := hid (ext_trans HB3.out hb4)
  have r0 := later hb4 s0
  have q0 := later hb4 t0
  have r1 := later hb4 s1
  have q1 := later hb4 t1
  have r2 := later hb4 s2
  have q2 := later hb4 t2
  have r3 := later hb4 s3
  have q3 := later hb4 t3
  have r4 := later hb4 s4
  have q4 := later hb4 t4
  have r5 := later hb4 s5
  have q5 := later hb4 t5
  have r6 := later hb4 s6
  have q6 := later hb4 t6
  clear hb4 s0 s1 s2 s3 s4 s5 s6 t0 t1 t2 t3 t4 t5 t6
  go_wp2_with fail
  go_ret
  exact ⟨rfl, HB4.out⟩
set_option maxRecDepth 100000 in
set_option maxHeartbeats 4000000 in
theorem unlike_yes (e d : Ev) (w : World) (he : EvOk e) (hd : EvOk d) (hS : Std w) (h1 : mayT e = true) (h2 : mayT d = true) :
    Calls Tryd.prog 6 #[evA e, evA d] w fun e' w' => e' = .returned (.bool true) ∧ Below w.heap.size w w' := by
  have HA := hid (fun W (hW : Below w.heap.size w W) => awake_any W (hS.below hW))
  have HE := hid (fun W (hW : Below w.heap.size w W) => show_any e W he (hS.below hW))
  have HD := hid (fun W (hW : Below w.heap.size w W) => show_any d W hd (hS.below hW))
  have e1 : showR e = (showT e, 0) := by unfold showR; rw [h1]; rfl
  have e2 : showR d = (showT d, 0) := by unfold showR; rw [h2]; rfl
  rw [e1] at HE
  rw [e2] at HD
  clear e1 e2
  have HI : Hid ((showT e == showT d) = (decide (e.kind = d.kind) && decide (e.th = d.th) && decide (e.tx = d.tx) && decide (e.at_ = d.at_) && decide (e.v = d.v) && decide (e.x = d.x) && decide (e.why = d.why))) := hid (unlike_eq h1 h2 he hd)
  generalize showT e = se at HE HI
  generalize showT d = sd at HD HI
  obtain ⟨kind, th, tx, at_, v, x, why⟩ := e
  obtain ⟨kind2, th2, tx2, at2, v2, x2, why2⟩ := d
  clear he hd hS h1 h2
  dsimp only [evA, strV] at HE HD HI ⊢
  have HB : Hid (Below w.heap.size w ((w.alloc (.cells #[.int .u8 kind, .int .i64 th, .int .i64 tx, .int .i64 at_, .int .i64 v, .int .i64 x, .int .u8 why] 23)).alloc (.cells #[.int .u8 kind2, .int .i64 th2, .int .i64 tx2, .int .i64 at2, .int .i64 v2, .int .i64 x2, .int .u8 why2] 23))) := hid (ext_alloc (ext_alloc (ext_refl _) _) _)
  have B1 : Hid (Blk ((w.alloc (.cells #[.int .u8 kind, .int .i64 th, .int .i64 tx, .int .i64 at_, .int .i64 v, .int .i64 x, .int .u8 why] 23)).alloc (.cells #[.int .u8 kind2, .int .i64 th2, .int .i64 tx2, .int .i64 at2, .int .i64 v2, .int .i64 x2, .int .u8 why2] 23)) w.heap.size #[.int .u8 kind, .int .i64 th, .int .i64 tx, .int .i64 at_, .int .i64 v, .int .i64 x, .int .u8 why] 23) := hid ((Blk.new _ _ _).alloc _)
  have B2 : Hid (Blk ((w.alloc (.cells #[.int .u8 kind, .int .i64 th, .int .i64 tx, .int .i64 at_, .int .i64 v, .int .i64 x, .int .u8 why] 23)).alloc (.cells #[.int .u8 kind2, .int .i64 th2, .int .i64 tx2, .int .i64 at2, .int .i64 v2, .int .i64 x2, .int .u8 why2] 23)) (w.heap.size + 1) #[.int .u8 kind2, .int .i64 th2, .int .i64 tx2, .int .i64 at2, .int .i64 v2, .int .i64 x2, .int .u8 why2] 23) := hid (Blk.new' _ _ _ (Array.size_push ..).symm)
  go_enter Tryd.func6, Tryd.ntmps6
  go_wp2_with fail
  refine (HA.out _ HB.out).mono ?_
  rintro e' w2 ⟨rfl, hb2⟩
  have HB2 := hid (ext_trans HB.out hb2)
  have r0 := later hb2 (B1.out.cell 0 rfl)
  have q0 := later hb2 (B2.out.cell 0 rfl)
  have r1 := later hb2 (B1.out.cell 1 rfl)
  have q1 := later hb2 (B2.out.cell 1 rfl)
  have r2 := later hb2 (B1.out.cell 2 rfl)
  have q2 := later hb2 (B2.out.cell 2 rfl)
  have r3 := later hb2 (B1.out.cell 3 rfl)
  have q3 := later hb2 (B2.out.cell 3 rfl)
  have r4 := later hb2 (B1.out.cell 4 rfl)
  have q4 := later hb2 (B2.out.cell 4 rfl)
  have r5 := later hb2 (B1.out.cell 5 rfl)
  have q5 := later hb2 (B2.out.cell 5 rfl)
  have r6 := later hb2 (B1.out.cell 6 rfl)
  have q6 := later hb2 (B2.out.cell 6 rfl)
  clear hb2
  go_wp2_with fail
  refine (HE.out _ HB2.out).mono ?_
  rintro e' w3 ⟨rfl, hb3⟩
  have HB3 := hid (ext_trans HB2.out hb3)
  have s0 := later hb3 r0
  have t0 := later hb3 q0
  have s1 := later hb3 r1
  have t1 := later hb3 q1
  have s2 := later hb3 r2
  have t2 := later hb3 q2
  have s3 := later hb3 r3
  have t3 := later hb3 q3
  have s4 := later hb3 r4
  have t4 := later hb3 q4
  have s5 := later hb3 r5
  have t5 := later hb3 q5
  have s6 := later hb3 r6
  have t6 := later hb3 q6
  clear hb3 r0 r1 r2 r3 r4 r5 r6 q0 q1 q2 q3 q4 q5 q6
  go_wp2_with fail
  refine (HD.out _ HB3.out).mono ?_
  rintro e' w4 ⟨rfl, hb4⟩
  have HB4 := hid (ext_trans HB3.out hb4)
  have r0 := later hb4 s0
  have q0 := later hb4 t0
  have r1 := later hb4 s1
  have q1 := later hb4 t1
  have r2 := later hb4 s2
  have q2 := later hb4 t2
  have r3 := later hb4 s3
  have q3 := later hb4 t3
  have r4 := later hb4 s4
  have q4 := later hb4 t4
  have r5 := later hb4 s5
  have q5 := later hb4 t5
  have r6 := later hb4 s6
  have q6 := later hb4 t6
  clear hb4 s0 s1 s2 s3 s4 s5 s6 t0 t1 t2 t3 t4 t5 t6
  go_wp2_with fail
  all_goals
    go_ret
    refine ⟨?_, HB4.out⟩
    have hi := HI.out
    clear HA HE HD HB HB2 HB3 HB4 B1 B2 HI r0 r1 r2 r3 r4 r5 r6 q0 q1 q2 q3 q4 q5 q6
    simp_all
theorem unlike_any (e d : Ev) (w : World) (he : EvOk e) (hd : EvOk d) (hS : Std w) :
    Calls Tryd.prog 6 #[evA e, evA d] w fun e' w' => e' = .returned (.bool true) ∧ Below w.heap.size w w' := by
  cases h1 : mayT e <;> cases h2 : mayT d
  · exact unlike_no1 e d w he hd hS h1 h2
  · exact unlike_no2 e d w he hd hS h1 h2
  · exact unlike_no3 e d w he hd hS h1 h2
  · exact unlike_yes e d w he hd hS h1 h2
end Go.Proofs.YtlbpollckiidlaaDoor
