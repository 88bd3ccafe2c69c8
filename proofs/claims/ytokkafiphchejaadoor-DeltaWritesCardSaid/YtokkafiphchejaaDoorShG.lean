/-
  Walks: event.bare, Kind by Kind.
-/
import Derived.Test.YtokkafiphchejaaDoorShE
import Derived.Deep.DeepCutAuto
namespace Go.Proofs.YtokkafiphchejaaDoor
set_option linter.unusedVariables false
set_option linter.unusedSimpArgs false
open Go Go.RowKit

set_option maxRecDepth 100000 in
set_option maxHeartbeats 4000000 in
theorem bare_5 (th tx at_ v x why : Int) (w : World) (hK : KindsAt w) (he : EvOk ⟨5, th, tx, at_, v, x, why⟩) : Calls Tryd.prog 53 #[evA ⟨5, th, tx, at_, v, x, why⟩] w fun e w' => e = .returned (evA ⟨5, th, 0, 0, v, 0, 0⟩) ∧ Below w.heap.size w w' := by
  obtain ⟨-, -, hr_tx, hr_at, hr_v, hr_x, hr_why⟩ := he
  dsimp only at hr_tx hr_at hr_v hr_x hr_why
  have hk := hK 5 _ rfl
  clear hK
  obtain ⟨a, cap, k1, k2, k3⟩ := hk
  obtain ⟨kb, ko, rfl, k4⟩ := k3 (by simp)
  clear k2 k3
  have k5_0 := k4 0 (by simp)
  clear k4
  simp only [List.length_cons, List.length_nil, List.getElem_cons_zero, List.getElem_cons_succ, Nat.add_zero, Nat.zero_add, Nat.reduceMul, Nat.reduceAdd] at k1 k5_0
  dsimp only [evA]
  have HK := hid (And.intro k1 (k5_0))
  clear k1 k5_0
  go_enter Tryd.func53, Tryd.ntmps53
  go_upto_region 1 with (fail)
  go_cut [3, 4] (fun s3 s4 w' => ∃ p q, s3 = .pointer (some ⟨p, 0, none⟩) ∧ s4 = .pointer (some ⟨q, 0, none⟩) ∧ Blk w' p (evC ⟨5, th, tx, at_, v, x, why⟩) 117 ∧ Blk w' q (evC ⟨5, th, 0, 0, 0, 0, 0⟩) 117 ∧ Blk w' w.heap.size (evC ⟨5, th, tx, at_, v, x, why⟩) 33 ∧ Blk w' (w.heap.size + 1) (evC ⟨0, 0, 0, 0, 0, 0, 0⟩) 33 ∧ p ≠ q ∧ w.heap.size + 1 < p ∧ w.heap.size + 1 < q ∧ Below w.heap.size w w')
  case first =>
    go_region_held3 (fun w' => w'.cell? ⟨w.heap.size, 0, none⟩ = some (.int .u8 5) ∧ w'.cell? ⟨w.heap.size, 1, none⟩ = some (.int .i64 th) ∧ w'.cell? ⟨w.heap.size, 2, none⟩ = some (.int .i64 tx) ∧ w'.cell? ⟨w.heap.size, 3, none⟩ = some (.int .i64 at_) ∧ w'.cell? ⟨w.heap.size, 4, none⟩ = some (.int .i64 v) ∧ w'.cell? ⟨w.heap.size, 5, none⟩ = some (.int .i64 x) ∧ w'.cell? ⟨w.heap.size, 6, none⟩ = some (.int .u8 why)) (go_keep) (fail)
    all_goals (
      go_wp2_with fail
      go_meet
      dsimp only [evC]
      refine ⟨_, _, rfl, rfl, ?_, ?_, ?_, ?_, by omega, by omega, by omega, by repeat (first | assumption | exact ext_refl _ | refine ext_drew ?_ | refine ext_alloc ?_ _ | refine ext_trans ?_ (by assumption))⟩
      all_goals (repeat (first | (with_reducible assumption) | (with_reducible exact Blk.new _ _ _) | (with_reducible exact Blk.new' _ _ _ (by simp [World.setCell])) | (with_reducible refine Blk.drew ?_) | (with_reducible refine Blk.alloc ?_ _))))
  case rest =>
    obtain ⟨p, q, rfl, rfl, hP, hQ, hE, hO, hpq, hp, hq, hb⟩ := hcut
    have c1 := later hb HK.out.1; have c2_0 := later hb HK.out.2
    have wz := hb.size
    have e0 := hE.cell 0 (v := .int .u8 5) rfl
    have lk := lt_of_cell HK.out.2
    have lg := lt_of_cell HK.out.1
    have HP := hid hP
    have HQ := hid hQ
    have HO := hid hO
    have HB := hid hb
    clear hP hQ hE hO hb
    go_wp2_with fail
    refine wp_loop_rounds 2 ?_; rw [rounds_succ]
    go_wp2_with fail
    refine (get_v p v _ (HP.out.cell 4 rfl) hr_v).mono ?_
    rintro e1 w1 ⟨rfl, rfl⟩
    go_wp2_with fail
    refine (put_v q _ v (evC ⟨5, th, 0, 0, 0, 0, 0⟩) 117 _ (HQ.out.alloc _) (by simp [evC]) ?_ ((Blk.new _ _ _).cell 0 rfl) hr_v).mono ?_
    · have := HQ.out.lt; omega
    rintro e1 w1 ⟨rfl, hq1, ht1⟩
    have hP1 := ht1.blk (by simp; exact hpq) (HP.out.alloc _)
    have hO1 := ht1.blk (by simp; omega) (HO.out.alloc _)
    have c1' := ht1.cell (by simp; omega) (cell_alloc c1)
    have hb1 : Below w.heap.size w w1 := ((HB.out.alloc HB.out.size _).trans ((ht1.below (B := w.heap.size) (by simp; omega) (by simp; omega)).mono (Nat.le_refl _)))
    have hq2 := blk_is hq1 (show _ = evC ⟨5, th, 0, 0, v, 0, 0⟩ from rfl)
    have wz1 := hb1.size
    clear c1 c2_0 hq1 ht1
    have c1 := c1'
    clear c1'
    clear HP HQ HO HB
    have HP := hid hP1
    have HQ := hid hq2
    have HO := hid hO1
    have HB := hid hb1
    clear hP1 hq2 hO1 hb1
    have q0 := HQ.out.cell 0 (v := .int .u8 5) rfl
    have q1 := HQ.out.cell 1 (v := .int .i64 th) rfl
    have q2 := HQ.out.cell 2 (v := .int .i64 0) rfl
    have q3 := HQ.out.cell 3 (v := .int .i64 0) rfl
    have q4 := HQ.out.cell 4 (v := .int .i64 v) rfl
    have q5 := HQ.out.cell 5 (v := .int .i64 0) rfl
    have q6 := HQ.out.cell 6 (v := .int .u8 0) rfl
    have o0 := HO.out.cell 0 (v := .int .u8 0) rfl
    have o1 := HO.out.cell 1 (v := .int .i64 0) rfl
    have o2 := HO.out.cell 2 (v := .int .i64 0) rfl
    have o3 := HO.out.cell 3 (v := .int .i64 0) rfl
    have o4 := HO.out.cell 4 (v := .int .i64 0) rfl
    have o5 := HO.out.cell 5 (v := .int .i64 0) rfl
    have o6 := HO.out.cell 6 (v := .int .u8 0) rfl
    have f0 := HO.out.free 0
    have f1 := HO.out.free 1
    have f2 := HO.out.free 2
    have f3 := HO.out.free 3
    have f4 := HO.out.free 4
    have f5 := HO.out.free 5
    have f6 := HO.out.free 6
    go_wp2_with fail
    rw [rounds_succ]
    go_wp2_with fail
    exact bodyPost_ret (v := .agg #[.int .u8 5, .int .i64 th, .int .i64 0, .int .i64 0, .int .i64 v, .int .i64 0, .int .u8 0]) (by simp [results, Tryd.results53, go_sem, *]) rfl ⟨rfl, by (have h := HB.out; repeat (first | (with_reducible exact h) | (with_reducible refine Below.setCell ?_ (by simp) _) | (with_reducible refine ext_drew ?_) | (with_reducible refine ext_alloc ?_ _)))⟩

set_option maxRecDepth 100000 in
set_option maxHeartbeats 4000000 in
theorem bare_6 (th tx at_ v x why : Int) (w : World) (hK : KindsAt w) (he : EvOk ⟨6, th, tx, at_, v, x, why⟩) : Calls Tryd.prog 53 #[evA ⟨6, th, tx, at_, v, x, why⟩] w fun e w' => e = .returned (evA ⟨6, th, 0, at_, 0, 0, 0⟩) ∧ Below w.heap.size w w' := by
  obtain ⟨-, -, hr_tx, hr_at, hr_v, hr_x, hr_why⟩ := he
  dsimp only at hr_tx hr_at hr_v hr_x hr_why
  have hk := hK 6 _ rfl
  clear hK
  obtain ⟨a, cap, k1, k2, k3⟩ := hk
  obtain ⟨kb, ko, rfl, k4⟩ := k3 (by simp)
  clear k2 k3
  have k5_0 := k4 0 (by simp)
  clear k4
  simp only [List.length_cons, List.length_nil, List.getElem_cons_zero, List.getElem_cons_succ, Nat.add_zero, Nat.zero_add, Nat.reduceMul, Nat.reduceAdd] at k1 k5_0
  dsimp only [evA]
  have HK := hid (And.intro k1 (k5_0))
  clear k1 k5_0
  go_enter Tryd.func53, Tryd.ntmps53
  go_upto_region 1 with (fail)
  go_cut [3, 4] (fun s3 s4 w' => ∃ p q, s3 = .pointer (some ⟨p, 0, none⟩) ∧ s4 = .pointer (some ⟨q, 0, none⟩) ∧ Blk w' p (evC ⟨6, th, tx, at_, v, x, why⟩) 117 ∧ Blk w' q (evC ⟨6, th, 0, 0, 0, 0, 0⟩) 117 ∧ Blk w' w.heap.size (evC ⟨6, th, tx, at_, v, x, why⟩) 33 ∧ Blk w' (w.heap.size + 1) (evC ⟨0, 0, 0, 0, 0, 0, 0⟩) 33 ∧ p ≠ q ∧ w.heap.size + 1 < p ∧ w.heap.size + 1 < q ∧ Below w.heap.size w w')
  case first =>
    go_region_held3 (fun w' => w'.cell? ⟨w.heap.size, 0, none⟩ = some (.int .u8 6) ∧ w'.cell? ⟨w.heap.size, 1, none⟩ = some (.int .i64 th) ∧ w'.cell? ⟨w.heap.size, 2, none⟩ = some (.int .i64 tx) ∧ w'.cell? ⟨w.heap.size, 3, none⟩ = some (.int .i64 at_) ∧ w'.cell? ⟨w.heap.size, 4, none⟩ = some (.int .i64 v) ∧ w'.cell? ⟨w.heap.size, 5, none⟩ = some (.int .i64 x) ∧ w'.cell? ⟨w.heap.size, 6, none⟩ = some (.int .u8 why)) (go_keep) (fail)
    all_goals (
      go_wp2_with fail
      go_meet
      dsimp only [evC]
      refine ⟨_, _, rfl, rfl, ?_, ?_, ?_, ?_, by omega, by omega, by omega, by repeat (first | assumption | exact ext_refl _ | refine ext_drew ?_ | refine ext_alloc ?_ _ | refine ext_trans ?_ (by assumption))⟩
      all_goals (repeat (first | (with_reducible assumption) | (with_reducible exact Blk.new _ _ _) | (with_reducible exact Blk.new' _ _ _ (by simp [World.setCell])) | (with_reducible refine Blk.drew ?_) | (with_reducible refine Blk.alloc ?_ _))))
  case rest =>
    obtain ⟨p, q, rfl, rfl, hP, hQ, hE, hO, hpq, hp, hq, hb⟩ := hcut
    have c1 := later hb HK.out.1; have c2_0 := later hb HK.out.2
    have wz := hb.size
    have e0 := hE.cell 0 (v := .int .u8 6) rfl
    have lk := lt_of_cell HK.out.2
    have lg := lt_of_cell HK.out.1
    have HP := hid hP
    have HQ := hid hQ
    have HO := hid hO
    have HB := hid hb
    clear hP hQ hE hO hb
    go_wp2_with fail
    refine wp_loop_rounds 2 ?_; rw [rounds_succ]
    go_wp2_with fail
    refine (get_at p at_ _ (HP.out.cell 3 rfl) hr_at).mono ?_
    rintro e1 w1 ⟨rfl, rfl⟩
    go_wp2_with fail
    refine (put_at q _ at_ (evC ⟨6, th, 0, 0, 0, 0, 0⟩) 117 _ (HQ.out.alloc _) (by simp [evC]) ?_ ((Blk.new _ _ _).cell 0 rfl) hr_at).mono ?_
    · have := HQ.out.lt; omega
    rintro e1 w1 ⟨rfl, hq1, ht1⟩
    have hP1 := ht1.blk (by simp; exact hpq) (HP.out.alloc _)
    have hO1 := ht1.blk (by simp; omega) (HO.out.alloc _)
    have c1' := ht1.cell (by simp; omega) (cell_alloc c1)
    have hb1 : Below w.heap.size w w1 := ((HB.out.alloc HB.out.size _).trans ((ht1.below (B := w.heap.size) (by simp; omega) (by simp; omega)).mono (Nat.le_refl _)))
    have hq2 := blk_is hq1 (show _ = evC ⟨6, th, 0, at_, 0, 0, 0⟩ from rfl)
    have wz1 := hb1.size
    clear c1 c2_0 hq1 ht1
    have c1 := c1'
    clear c1'
    clear HP HQ HO HB
    have HP := hid hP1
    have HQ := hid hq2
    have HO := hid hO1
    have HB := hid hb1
    clear hP1 hq2 hO1 hb1
    have q0 := HQ.out.cell 0 (v := .int .u8 6) rfl
    have q1 := HQ.out.cell 1 (v := .int .i64 th) rfl
    have q2 := HQ.out.cell 2 (v := .int .i64 0) rfl
    have q3 := HQ.out.cell 3 (v := .int .i64 at_) rfl
    have q4 := HQ.out.cell 4 (v := .int .i64 0) rfl
    have q5 := HQ.out.cell 5 (v := .int .i64 0) rfl
    have q6 := HQ.out.cell 6 (v := .int .u8 0) rfl
    have o0 := HO.out.cell 0 (v := .int .u8 0) rfl
    have o1 := HO.out.cell 1 (v := .int .i64 0) rfl
    have o2 := HO.out.cell 2 (v := .int .i64 0) rfl
    have o3 := HO.out.cell 3 (v := .int .i64 0) rfl
    have o4 := HO.out.cell 4 (v := .int .i64 0) rfl
    have o5 := HO.out.cell 5 (v := .int .i64 0) rfl
    have o6 := HO.out.cell 6 (v := .int .u8 0) rfl
    have f0 := HO.out.free 0
    have f1 := HO.out.free 1
    have f2 := HO.out.free 2
    have f3 := HO.out.free 3
    have f4 := HO.out.free 4
    have f5 := HO.out.free 5
    have f6 := HO.out.free 6
    go_wp2_with fail
    rw [rounds_succ]
    go_wp2_with fail
    exact bodyPost_ret (v := .agg #[.int .u8 6, .int .i64 th, .int .i64 0, .int .i64 at_, .int .i64 0, .int .i64 0, .int .u8 0]) (by simp [results, Tryd.results53, go_sem, *]) rfl ⟨rfl, by (have h := HB.out; repeat (first | (with_reducible exact h) | (with_reducible refine Below.setCell ?_ (by simp) _) | (with_reducible refine ext_drew ?_) | (with_reducible refine ext_alloc ?_ _)))⟩

set_option maxRecDepth 100000 in
set_option maxHeartbeats 4000000 in
theorem bare_7 (th tx at_ v x why : Int) (w : World) (hK : KindsAt w) (he : EvOk ⟨7, th, tx, at_, v, x, why⟩) : Calls Tryd.prog 53 #[evA ⟨7, th, tx, at_, v, x, why⟩] w fun e w' => e = .returned (evA ⟨7, th, 0, 0, v, 0, 0⟩) ∧ Below w.heap.size w w' := by
  obtain ⟨-, -, hr_tx, hr_at, hr_v, hr_x, hr_why⟩ := he
  dsimp only at hr_tx hr_at hr_v hr_x hr_why
  have hk := hK 7 _ rfl
  clear hK
  obtain ⟨a, cap, k1, k2, k3⟩ := hk
  obtain ⟨kb, ko, rfl, k4⟩ := k3 (by simp)
  clear k2 k3
  have k5_0 := k4 0 (by simp)
  clear k4
  simp only [List.length_cons, List.length_nil, List.getElem_cons_zero, List.getElem_cons_succ, Nat.add_zero, Nat.zero_add, Nat.reduceMul, Nat.reduceAdd] at k1 k5_0
  dsimp only [evA]
  have HK := hid (And.intro k1 (k5_0))
  clear k1 k5_0
  go_enter Tryd.func53, Tryd.ntmps53
  go_upto_region 1 with (fail)
  go_cut [3, 4] (fun s3 s4 w' => ∃ p q, s3 = .pointer (some ⟨p, 0, none⟩) ∧ s4 = .pointer (some ⟨q, 0, none⟩) ∧ Blk w' p (evC ⟨7, th, tx, at_, v, x, why⟩) 117 ∧ Blk w' q (evC ⟨7, th, 0, 0, 0, 0, 0⟩) 117 ∧ Blk w' w.heap.size (evC ⟨7, th, tx, at_, v, x, why⟩) 33 ∧ Blk w' (w.heap.size + 1) (evC ⟨0, 0, 0, 0, 0, 0, 0⟩) 33 ∧ p ≠ q ∧ w.heap.size + 1 < p ∧ w.heap.size + 1 < q ∧ Below w.heap.size w w')
  case first =>
    go_region_held3 (fun w' => w'.cell? ⟨w.heap.size, 0, none⟩ = some (.int .u8 7) ∧ w'.cell? ⟨w.heap.size, 1, none⟩ = some (.int .i64 th) ∧ w'.cell? ⟨w.heap.size, 2, none⟩ = some (.int .i64 tx) ∧ w'.cell? ⟨w.heap.size, 3, none⟩ = some (.int .i64 at_) ∧ w'.cell? ⟨w.heap.size, 4, none⟩ = some (.int .i64 v) ∧ w'.cell? ⟨w.heap.size, 5, none⟩ = some (.int .i64 x) ∧ w'.cell? ⟨w.heap.size, 6, none⟩ = some (.int .u8 why)) (go_keep) (fail)
    all_goals (
      go_wp2_with fail
      go_meet
      dsimp only [evC]
      refine ⟨_, _, rfl, rfl, ?_, ?_, ?_, ?_, by omega, by omega, by omega, by repeat (first | assumption | exact ext_refl _ | refine ext_drew ?_ | refine ext_alloc ?_ _ | refine ext_trans ?_ (by assumption))⟩
      all_goals (repeat (first | (with_reducible assumption) | (with_reducible exact Blk.new _ _ _) | (with_reducible exact Blk.new' _ _ _ (by simp [World.setCell])) | (with_reducible refine Blk.drew ?_) | (with_reducible refine Blk.alloc ?_ _))))
  case rest =>
    obtain ⟨p, q, rfl, rfl, hP, hQ, hE, hO, hpq, hp, hq, hb⟩ := hcut
    have c1 := later hb HK.out.1; have c2_0 := later hb HK.out.2
    have wz := hb.size
    have e0 := hE.cell 0 (v := .int .u8 7) rfl
    have lk := lt_of_cell HK.out.2
    have lg := lt_of_cell HK.out.1
    have HP := hid hP
    have HQ := hid hQ
    have HO := hid hO
    have HB := hid hb
    clear hP hQ hE hO hb
    go_wp2_with fail
    refine wp_loop_rounds 2 ?_; rw [rounds_succ]
    go_wp2_with fail
    refine (get_v p v _ (HP.out.cell 4 rfl) hr_v).mono ?_
    rintro e1 w1 ⟨rfl, rfl⟩
    go_wp2_with fail
    refine (put_v q _ v (evC ⟨7, th, 0, 0, 0, 0, 0⟩) 117 _ (HQ.out.alloc _) (by simp [evC]) ?_ ((Blk.new _ _ _).cell 0 rfl) hr_v).mono ?_
    · have := HQ.out.lt; omega
    rintro e1 w1 ⟨rfl, hq1, ht1⟩
    have hP1 := ht1.blk (by simp; exact hpq) (HP.out.alloc _)
    have hO1 := ht1.blk (by simp; omega) (HO.out.alloc _)
    have c1' := ht1.cell (by simp; omega) (cell_alloc c1)
    have hb1 : Below w.heap.size w w1 := ((HB.out.alloc HB.out.size _).trans ((ht1.below (B := w.heap.size) (by simp; omega) (by simp; omega)).mono (Nat.le_refl _)))
    have hq2 := blk_is hq1 (show _ = evC ⟨7, th, 0, 0, v, 0, 0⟩ from rfl)
    have wz1 := hb1.size
    clear c1 c2_0 hq1 ht1
    have c1 := c1'
    clear c1'
    clear HP HQ HO HB
    have HP := hid hP1
    have HQ := hid hq2
    have HO := hid hO1
    have HB := hid hb1
    clear hP1 hq2 hO1 hb1
    have q0 := HQ.out.cell 0 (v := .int .u8 7) rfl
    have q1 := HQ.out.cell 1 (v := .int .i64 th) rfl
    have q2 := HQ.out.cell 2 (v := .int .i64 0) rfl
    have q3 := HQ.out.cell 3 (v := .int .i64 0) rfl
    have q4 := HQ.out.cell 4 (v := .int .i64 v) rfl
    have q5 := HQ.out.cell 5 (v := .int .i64 0) rfl
    have q6 := HQ.out.cell 6 (v := .int .u8 0) rfl
    have o0 := HO.out.cell 0 (v := .int .u8 0) rfl
    have o1 := HO.out.cell 1 (v := .int .i64 0) rfl
    have o2 := HO.out.cell 2 (v := .int .i64 0) rfl
    have o3 := HO.out.cell 3 (v := .int .i64 0) rfl
    have o4 := HO.out.cell 4 (v := .int .i64 0) rfl
    have o5 := HO.out.cell 5 (v := .int .i64 0) rfl
    have o6 := HO.out.cell 6 (v := .int .u8 0) rfl
    have f0 := HO.out.free 0
    have f1 := HO.out.free 1
    have f2 := HO.out.free 2
    have f3 := HO.out.free 3
    have f4 := HO.out.free 4
    have f5 := HO.out.free 5
    have f6 := HO.out.free 6
    go_wp2_with fail
    rw [rounds_succ]
    go_wp2_with fail
    exact bodyPost_ret (v := .agg #[.int .u8 7, .int .i64 th, .int .i64 0, .int .i64 0, .int .i64 v, .int .i64 0, .int .u8 0]) (by simp [results, Tryd.results53, go_sem, *]) rfl ⟨rfl, by (have h := HB.out; repeat (first | (with_reducible exact h) | (with_reducible refine Below.setCell ?_ (by simp) _) | (with_reducible refine ext_drew ?_) | (with_reducible refine ext_alloc ?_ _)))⟩

set_option maxRecDepth 100000 in
set_option maxHeartbeats 4000000 in
theorem bare_8 (th tx at_ v x why : Int) (w : World) (hK : KindsAt w) (he : EvOk ⟨8, th, tx, at_, v, x, why⟩) : Calls Tryd.prog 53 #[evA ⟨8, th, tx, at_, v, x, why⟩] w fun e w' => e = .returned (evA ⟨8, th, 0, at_, 0, x, 0⟩) ∧ Below w.heap.size w w' := by
  obtain ⟨-, -, hr_tx, hr_at, hr_v, hr_x, hr_why⟩ := he
  dsimp only at hr_tx hr_at hr_v hr_x hr_why
  have hk := hK 8 _ rfl
  clear hK
  obtain ⟨a, cap, k1, k2, k3⟩ := hk
  obtain ⟨kb, ko, rfl, k4⟩ := k3 (by simp)
  clear k2 k3
  have k5_0 := k4 0 (by simp)
  have k5_1 := k4 1 (by simp)
  clear k4
  simp only [List.length_cons, List.length_nil, List.getElem_cons_zero, List.getElem_cons_succ, Nat.add_zero, Nat.zero_add, Nat.reduceMul, Nat.reduceAdd] at k1 k5_0 k5_1
  dsimp only [evA]
  have HK := hid (And.intro k1 (And.intro k5_0 k5_1))
  clear k1 k5_0 k5_1
  go_enter Tryd.func53, Tryd.ntmps53
  go_upto_region 1 with (fail)
  go_cut [3, 4] (fun s3 s4 w' => ∃ p q, s3 = .pointer (some ⟨p, 0, none⟩) ∧ s4 = .pointer (some ⟨q, 0, none⟩) ∧ Blk w' p (evC ⟨8, th, tx, at_, v, x, why⟩) 117 ∧ Blk w' q (evC ⟨8, th, 0, 0, 0, 0, 0⟩) 117 ∧ Blk w' w.heap.size (evC ⟨8, th, tx, at_, v, x, why⟩) 33 ∧ Blk w' (w.heap.size + 1) (evC ⟨0, 0, 0, 0, 0, 0, 0⟩) 33 ∧ p ≠ q ∧ w.heap.size + 1 < p ∧ w.heap.size + 1 < q ∧ Below w.heap.size w w')
  case first =>
    go_region_held3 (fun w' => w'.cell? ⟨w.heap.size, 0, none⟩ = some (.int .u8 8) ∧ w'.cell? ⟨w.heap.size, 1, none⟩ = some (.int .i64 th) ∧ w'.cell? ⟨w.heap.size, 2, none⟩ = some (.int .i64 tx) ∧ w'.cell? ⟨w.heap.size, 3, none⟩ = some (.int .i64 at_) ∧ w'.cell? ⟨w.heap.size, 4, none⟩ = some (.int .i64 v) ∧ w'.cell? ⟨w.heap.size, 5, none⟩ = some (.int .i64 x) ∧ w'.cell? ⟨w.heap.size, 6, none⟩ = some (.int .u8 why)) (go_keep) (fail)
    all_goals (
      go_wp2_with fail
      go_meet
      dsimp only [evC]
      refine ⟨_, _, rfl, rfl, ?_, ?_, ?_, ?_, by omega, by omega, by omega, by repeat (first | assumption | exact ext_refl _ | refine ext_drew ?_ | refine ext_alloc ?_ _ | refine ext_trans ?_ (by assumption))⟩
      all_goals (repeat (first | (with_reducible assumption) | (with_reducible exact Blk.new _ _ _) | (with_reducible exact Blk.new' _ _ _ (by simp [World.setCell])) | (with_reducible refine Blk.drew ?_) | (with_reducible refine Blk.alloc ?_ _))))
  case rest =>
    obtain ⟨p, q, rfl, rfl, hP, hQ, hE, hO, hpq, hp, hq, hb⟩ := hcut
    have c1 := later hb HK.out.1; have c2_0 := later hb HK.out.2.1; have c2_1 := later hb HK.out.2.2
    have wz := hb.size
    have e0 := hE.cell 0 (v := .int .u8 8) rfl
    have lk := lt_of_cell HK.out.2.1
    have lg := lt_of_cell HK.out.1
    have HP := hid hP
    have HQ := hid hQ
    have HO := hid hO
    have HB := hid hb
    clear hP hQ hE hO hb
    go_wp2_with fail
    refine wp_loop_rounds 3 ?_; rw [rounds_succ]
    go_wp2_with fail
    refine (get_at p at_ _ (HP.out.cell 3 rfl) hr_at).mono ?_
    rintro e1 w1 ⟨rfl, rfl⟩
    go_wp2_with fail
    refine (put_at q _ at_ (evC ⟨8, th, 0, 0, 0, 0, 0⟩) 117 _ (HQ.out.alloc _) (by simp [evC]) ?_ ((Blk.new _ _ _).cell 0 rfl) hr_at).mono ?_
    · have := HQ.out.lt; omega
    rintro e1 w1 ⟨rfl, hq1, ht1⟩
    have hP1 := ht1.blk (by simp; exact hpq) (HP.out.alloc _)
    have hO1 := ht1.blk (by simp; omega) (HO.out.alloc _)
    have c1' := ht1.cell (by simp; omega) (cell_alloc c1)
    have c2_1' := ht1.cell (by simp; omega) (cell_alloc c2_1)
    have hb1 : Below w.heap.size w w1 := ((HB.out.alloc HB.out.size _).trans ((ht1.below (B := w.heap.size) (by simp; omega) (by simp; omega)).mono (Nat.le_refl _)))
    have hq2 := blk_is hq1 (show _ = evC ⟨8, th, 0, at_, 0, 0, 0⟩ from rfl)
    have wz1 := hb1.size
    clear c1 c2_0 c2_1 hq1 ht1
    have c1 := c1'
    clear c1'
    have c2_1 := c2_1'
    clear c2_1'
    clear HP HQ HO HB
    have HP := hid hP1
    have HQ := hid hq2
    have HO := hid hO1
    have HB := hid hb1
    clear hP1 hq2 hO1 hb1
    go_wp2_with fail
    rw [rounds_succ]
    go_wp2_with fail
    refine (get_x p x _ (HP.out.cell 5 rfl) hr_x).mono ?_
    rintro e1 w1 ⟨rfl, rfl⟩
    go_wp2_with fail
    refine (put_x q _ x (evC ⟨8, th, 0, at_, 0, 0, 0⟩) 117 _ (HQ.out.alloc _) (by simp [evC]) ?_ ((Blk.new _ _ _).cell 0 rfl) hr_x).mono ?_
    · have := HQ.out.lt; omega
    rintro e1 w1 ⟨rfl, hq1, ht1⟩
    have hP1 := ht1.blk (by simp; exact hpq) (HP.out.alloc _)
    have hO1 := ht1.blk (by simp; omega) (HO.out.alloc _)
    have c1' := ht1.cell (by simp; omega) (cell_alloc c1)
    have hb1 : Below w.heap.size w w1 := ((HB.out.alloc HB.out.size _).trans ((ht1.below (B := w.heap.size) (by simp; omega) (by simp; omega)).mono (Nat.le_refl _)))
    have hq2 := blk_is hq1 (show _ = evC ⟨8, th, 0, at_, 0, x, 0⟩ from rfl)
    have wz1 := hb1.size
    clear c1 c2_1 hq1 ht1
    have c1 := c1'
    clear c1'
    clear HP HQ HO HB
    have HP := hid hP1
    have HQ := hid hq2
    have HO := hid hO1
    have HB := hid hb1
    clear hP1 hq2 hO1 hb1
    have q0 := HQ.out.cell 0 (v := .int .u8 8) rfl
    have q1 := HQ.out.cell 1 (v := .int .i64 th) rfl
    have q2 := HQ.out.cell 2 (v := .int .i64 0) rfl
    have q3 := HQ.out.cell 3 (v := .int .i64 at_) rfl
    have q4 := HQ.out.cell 4 (v := .int .i64 0) rfl
    have q5 := HQ.out.cell 5 (v := .int .i64 x) rfl
    have q6 := HQ.out.cell 6 (v := .int .u8 0) rfl
    have o0 := HO.out.cell 0 (v := .int .u8 0) rfl
    have o1 := HO.out.cell 1 (v := .int .i64 0) rfl
    have o2 := HO.out.cell 2 (v := .int .i64 0) rfl
    have o3 := HO.out.cell 3 (v := .int .i64 0) rfl
    have o4 := HO.out.cell 4 (v := .int .i64 0) rfl
    have o5 := HO.out.cell 5 (v := .int .i64 0) rfl
    have o6 := HO.out.cell 6 (v := .int .u8 0) rfl
    have f0 := HO.out.free 0
    have f1 := HO.out.free 1
    have f2 := HO.out.free 2
    have f3 := HO.out.free 3
    have f4 := HO.out.free 4
    have f5 := HO.out.free 5
    have f6 := HO.out.free 6
    go_wp2_with fail
    rw [rounds_succ]
    go_wp2_with fail
    exact bodyPost_ret (v := .agg #[.int .u8 8, .int .i64 th, .int .i64 0, .int .i64 at_, .int .i64 0, .int .i64 x, .int .u8 0]) (by simp [results, Tryd.results53, go_sem, *]) rfl ⟨rfl, by (have h := HB.out; repeat (first | (with_reducible exact h) | (with_reducible refine Below.setCell ?_ (by simp) _) | (with_reducible refine ext_drew ?_) | (with_reducible refine ext_alloc ?_ _)))⟩

set_option maxRecDepth 100000 in
set_option maxHeartbeats 4000000 in
theorem bare_9 (th tx at_ v x why : Int) (w : World) (hK : KindsAt w) (he : EvOk ⟨9, th, tx, at_, v, x, why⟩) : Calls Tryd.prog 53 #[evA ⟨9, th, tx, at_, v, x, why⟩] w fun e w' => e = .returned (evA ⟨9, th, 0, at_, 0, 0, 0⟩) ∧ Below w.heap.size w w' := by
  obtain ⟨-, -, hr_tx, hr_at, hr_v, hr_x, hr_why⟩ := he
  dsimp only at hr_tx hr_at hr_v hr_x hr_why
  have hk := hK 9 _ rfl
  clear hK
  obtain ⟨a, cap, k1, k2, k3⟩ := hk
  obtain ⟨kb, ko, rfl, k4⟩ := k3 (by simp)
  clear k2 k3
  have k5_0 := k4 0 (by simp)
  clear k4
  simp only [List.length_cons, List.length_nil, List.getElem_cons_zero, List.getElem_cons_succ, Nat.add_zero, Nat.zero_add, Nat.reduceMul, Nat.reduceAdd] at k1 k5_0
  dsimp only [evA]
  have HK := hid (And.intro k1 (k5_0))
  clear k1 k5_0
  go_enter Tryd.func53, Tryd.ntmps53
  go_upto_region 1 with (fail)
  go_cut [3, 4] (fun s3 s4 w' => ∃ p q, s3 = .pointer (some ⟨p, 0, none⟩) ∧ s4 = .pointer (some ⟨q, 0, none⟩) ∧ Blk w' p (evC ⟨9, th, tx, at_, v, x, why⟩) 117 ∧ Blk w' q (evC ⟨9, th, 0, 0, 0, 0, 0⟩) 117 ∧ Blk w' w.heap.size (evC ⟨9, th, tx, at_, v, x, why⟩) 33 ∧ Blk w' (w.heap.size + 1) (evC ⟨0, 0, 0, 0, 0, 0, 0⟩) 33 ∧ p ≠ q ∧ w.heap.size + 1 < p ∧ w.heap.size + 1 < q ∧ Below w.heap.size w w')
  case first =>
    go_region_held3 (fun w' => w'.cell? ⟨w.heap.size, 0, none⟩ = some (.int .u8 9) ∧ w'.cell? ⟨w.heap.size, 1, none⟩ = some (.int .i64 th) ∧ w'.cell? ⟨w.heap.size, 2, none⟩ = some (.int .i64 tx) ∧ w'.cell? ⟨w.heap.size, 3, none⟩ = some (.int .i64 at_) ∧ w'.cell? ⟨w.heap.size, 4, none⟩ = some (.int .i64 v) ∧ w'.cell? ⟨w.heap.size, 5, none⟩ = some (.int .i64 x) ∧ w'.cell? ⟨w.heap.size, 6, none⟩ = some (.int .u8 why)) (go_keep) (fail)
    all_goals (
      go_wp2_with fail
      go_meet
      dsimp only [evC]
      refine ⟨_, _, rfl, rfl, ?_, ?_, ?_, ?_, by omega, by omega, by omega, by repeat (first | assumption | exact ext_refl _ | refine ext_drew ?_ | refine ext_alloc ?_ _ | refine ext_trans ?_ (by assumption))⟩
      all_goals (repeat (first | (with_reducible assumption) | (with_reducible exact Blk.new _ _ _) | (with_reducible exact Blk.new' _ _ _ (by simp [World.setCell])) | (with_reducible refine Blk.drew ?_) | (with_reducible refine Blk.alloc ?_ _))))
  case rest =>
    obtain ⟨p, q, rfl, rfl, hP, hQ, hE, hO, hpq, hp, hq, hb⟩ := hcut
    have c1 := later hb HK.out.1; have c2_0 := later hb HK.out.2
    have wz := hb.size
    have e0 := hE.cell 0 (v := .int .u8 9) rfl
    have lk := lt_of_cell HK.out.2
    have lg := lt_of_cell HK.out.1
    have HP := hid hP
    have HQ := hid hQ
    have HO := hid hO
    have HB := hid hb
    clear hP hQ hE hO hb
    go_wp2_with fail
    refine wp_loop_rounds 2 ?_; rw [rounds_succ]
    go_wp2_with fail
    refine (get_at p at_ _ (HP.out.cell 3 rfl) hr_at).mono ?_
    rintro e1 w1 ⟨rfl, rfl⟩
    go_wp2_with fail
    refine (put_at q _ at_ (evC ⟨9, th, 0, 0, 0, 0, 0⟩) 117 _ (HQ.out.alloc _) (by simp [evC]) ?_ ((Blk.new _ _ _).cell 0 rfl) hr_at).mono ?_
    · have := HQ.out.lt; omega
    rintro e1 w1 ⟨rfl, hq1, ht1⟩
    have hP1 := ht1.blk (by simp; exact hpq) (HP.out.alloc _)
    have hO1 := ht1.blk (by simp; omega) (HO.out.alloc _)
    have c1' := ht1.cell (by simp; omega) (cell_alloc c1)
    have hb1 : Below w.heap.size w w1 := ((HB.out.alloc HB.out.size _).trans ((ht1.below (B := w.heap.size) (by simp; omega) (by simp; omega)).mono (Nat.le_refl _)))
    have hq2 := blk_is hq1 (show _ = evC ⟨9, th, 0, at_, 0, 0, 0⟩ from rfl)
    have wz1 := hb1.size
    clear c1 c2_0 hq1 ht1
    have c1 := c1'
    clear c1'
    clear HP HQ HO HB
    have HP := hid hP1
    have HQ := hid hq2
    have HO := hid hO1
    have HB := hid hb1
    clear hP1 hq2 hO1 hb1
    have q0 := HQ.out.cell 0 (v := .int .u8 9) rfl
    have q1 := HQ.out.cell 1 (v := .int .i64 th) rfl
    have q2 := HQ.out.cell 2 (v := .int .i64 0) rfl
    have q3 := HQ.out.cell 3 (v := .int .i64 at_) rfl
    have q4 := HQ.out.cell 4 (v := .int .i64 0) rfl
    have q5 := HQ.out.cell 5 (v := .int .i64 0) rfl
    have q6 := HQ.out.cell 6 (v := .int .u8 0) rfl
    have o0 := HO.out.cell 0 (v := .int .u8 0) rfl
    have o1 := HO.out.cell 1 (v := .int .i64 0) rfl
    have o2 := HO.out.cell 2 (v := .int .i64 0) rfl
    have o3 := HO.out.cell 3 (v := .int .i64 0) rfl
    have o4 := HO.out.cell 4 (v := .int .i64 0) rfl
    have o5 := HO.out.cell 5 (v := .int .i64 0) rfl
    have o6 := HO.out.cell 6 (v := .int .u8 0) rfl
    have f0 := HO.out.free 0
    have f1 := HO.out.free 1
    have f2 := HO.out.free 2
    have f3 := HO.out.free 3
    have f4 := HO.out.free 4
    have f5 := HO.out.free 5
    have f6 := HO.out.free 6
    go_wp2_with fail
    rw [rounds_succ]
    go_wp2_with fail
    exact bodyPost_ret (v := .agg #[.int .u8 9, .int .i64 th, .int .i64 0, .int .i64 at_, .int .i64 0, .int .i64 0, .int .u8 0]) (by simp [results, Tryd.results53, go_sem, *]) rfl ⟨rfl, by (have h := HB.out; repeat (first | (with_reducible exact h) | (with_reducible refine Below.setCell ?_ (by simp) _) | (with_reducible refine ext_drew ?_) | (with_reducible refine ext_alloc ?_ _)))⟩
end Go.Proofs.YtokkafiphchejaaDoor
