/-
  The laws ExprMeans and ExprRound, walked.
-/
import Derived.Test.YtonckpblbdopmaaDoorExAw
namespace Go.Proofs.YtonckpblbdopmaaDoor
set_option linter.unusedVariables false
open Go Go.RowKit

set_option maxRecDepth 100000 in
set_option maxHeartbeats 4000000 in
theorem exprMeans_walk (x v : Int) (w : World) (hx : -9223372036854775808 ≤ x ∧ x ≤ 9223372036854775807) (hv : v ≤ 9223372036854775807) (ho : OpsAt w) :
    Calls Tryd.prog 6 #[.int .i64 x, .int .i64 v] w fun e' w' => e' = .returned (.bool true) ∧ Below w.heap.size w w' := by
  have HAW := hid (awake_any w ho); clear ho
  obtain ⟨hx1, hx2⟩ := hx
  by_cases h1 : v < 1
  · go_enter Tryd.func6, Tryd.ntmps6
    go_wp2_with fail
    refine HAW.out.mono ?_
    rintro e' w1 ⟨rfl, hb1⟩
    go_wp2_with fail
    go_ret
    exact ⟨rfl, hb1⟩
  by_cases h2 : 1000000 < v
  · go_enter Tryd.func6, Tryd.ntmps6
    go_wp2_with fail
    refine HAW.out.mono ?_
    rintro e' w1 ⟨rfl, hb1⟩
    go_wp2_with fail
    go_ret
    exact ⟨rfl, hb1⟩
  by_cases h3 : 4611686018427387904 < x
  · go_enter Tryd.func6, Tryd.ntmps6
    go_wp2_with fail
    refine HAW.out.mono ?_
    rintro e' w1 ⟨rfl, hb1⟩
    go_wp2_with fail
    go_ret
    exact ⟨rfl, hb1⟩
  have g1 : 1 ≤ v := by omega
  have g2 : v ≤ 1000000 := by omega
  have g3 : x ≤ 4611686018427387904 := by omega
  clear h1 h2 h3 hv
  have r0 := Int.emod_nonneg x (b := v) (by omega)
  have r1 := Int.emod_lt_of_pos x (b := v) (by omega)
  have H1 := fun w => variable_any x v w (by omega)
  have H2 := fun w => variable_any (x + v) v w (by omega)
  have H3 := fun w => variable_any (x % v) v w (by omega)
  rw [varS_pos g1] at H1 H2 H3
  rw [Int.add_emod_right] at H2
  rw [Int.emod_emod] at H3
  generalize hr : x % v = r at *
  have H1 := hid H1
  have H2 := hid H2
  have H3 := hid H3
  clear hr
  go_enter Tryd.func6, Tryd.ntmps6
  go_wp2_with fail
  refine HAW.out.mono ?_
  rintro e' w1 ⟨rfl, hb1⟩
  go_wp2_with fail
  refine (H1.out _).mono ?_
  rintro e' w2 ⟨rfl, rfl⟩
  go_wp2_with fail
  refine (H2.out _).mono ?_
  rintro e' w2 ⟨rfl, rfl⟩
  go_wp2_with fail
  refine (H3.out _).mono ?_
  rintro e' w2 ⟨rfl, rfl⟩
  go_wp2_with fail
  go_ret
  exact ⟨rfl, hb1⟩

set_option maxRecDepth 100000 in
set_option maxHeartbeats 4000000 in
theorem lcome_any (op a b : Int) (w : World) (h1 : 4 ≤ op) (h2 : op ≤ 8) (ha : -9223372036854775808 ≤ a ∧ a ≤ 9223372036854775807) (hb : -9223372036854775808 ≤ b ∧ b ≤ 9223372036854775807) (ho : OpsAt w) :
    Calls Tryd.prog 19 #[.int .u8 op, .int .i64 a, .int .i64 b] w fun e' w' => e' = .returned (.int .i64 (opS op a b)) ∧ Below w.heap.size w w' := by
  have hA := ext_alloc (ext_refl w) (.cells #[.int .u8 1, .int .i64 a, .slice none 0 0, .int .u8 1, .int .i64 b, .slice none 0 0] 29)
  have hev : evalS [] [] (.mk op 0 [.mk 1 a [], .mk 1 b []]) = (opS op a b, 0) := by
    unfold evalS
    rw [if_pos, comeS_two [] [] 5 op 0 _ _ h1, comeS_leaf1, comeS_leaf1]
    · rfl
    · rw [wholeS_two h1 h2]; rfl
  have HE := eval_any [] [] (.mk op 0 [.mk 1 a [], .mk 1 b []]) (w.alloc (.cells #[.int .u8 1, .int .i64 a, .slice none 0 0, .int .u8 1, .int .i64 b, .slice none 0 0] 29)) _ _ (.slice (some ⟨w.heap.size, 0, none⟩) 2 2) _ _
    (RdEx.two (by omega) (by simp) (by simp) (by simp) (by simp) (by simp) (by simp) (RdEx.leaf _ _ _ (by decide) ha) (RdEx.leaf _ _ _ (by decide) hb)) (RdInts.nil _) (RdInts.nil _) (ho.below hA)
  rw [hev] at HE
  have HE := hid HE
  clear hev ho
  go_enter Tryd.func19, Tryd.ntmps19
  go_wp2_with fail
  refine HE.out.mono ?_
  rintro e' w1 ⟨rfl, hb1⟩
  go_wp2_with fail
  go_ret
  exact ⟨rfl, ext_trans hA hb1⟩

theorem wrap64_eq {x y : Int} (k : Int) (h : x = y + k * 18446744073709551616) : wrap64 x = wrap64 y := by unfold wrap64; omega
theorem wrap64_ex (x : Int) : ∃ k : Int, wrap64 x = x + k * 18446744073709551616 := ⟨-((x + 9223372036854775808) / 18446744073709551616), by unfold wrap64; omega⟩
theorem wrap64_mul_left (x y : Int) : wrap64 (wrap64 x * y) = wrap64 (x * y) := by
  obtain ⟨k, hk⟩ := wrap64_ex x
  rw [hk]
  exact wrap64_eq (k * y) (by rw [Int.add_mul]; congr 1; rw [Int.mul_assoc, Int.mul_comm 18446744073709551616 y, Int.mul_assoc])
theorem wrap64_mul_right (x y : Int) : wrap64 (x * wrap64 y) = wrap64 (x * y) := by rw [Int.mul_comm, wrap64_mul_left, Int.mul_comm]
theorem wrap64_add_left (x y : Int) : wrap64 (wrap64 x + y) = wrap64 (x + y) := by unfold wrap64; omega
theorem wrap64_add_right (x y : Int) : wrap64 (x + wrap64 y) = wrap64 (x + y) := by unfold wrap64; omega
theorem wrap64_sub_left (x y : Int) : wrap64 (wrap64 x - y) = wrap64 (x - y) := by unfold wrap64; omega
theorem wrap64_id {x : Int} (h : -9223372036854775808 ≤ x ∧ x ≤ 9223372036854775807) : wrap64 x = x := by unfold wrap64; omega

theorem come_is {op x y r : Int} (hr : opS op x y = r) (h1 : 4 ≤ op) (h2 : op ≤ 8) (ha : -9223372036854775808 ≤ x ∧ x ≤ 9223372036854775807) (hb : -9223372036854775808 ≤ y ∧ y ≤ 9223372036854775807) :
    ∀ w, OpsAt w → Calls Tryd.prog 19 #[.int .u8 op, .int .i64 x, .int .i64 y] w fun e' w' => e' = .returned (.int .i64 r) ∧ Below w.heap.size w w' := by
  subst hr; exact fun w ho => lcome_any op x y w h1 h2 ha hb ho
set_option maxRecDepth 100000 in
set_option maxHeartbeats 4000000 in
theorem add_is {x y r : Int} (hr : wrap64 (x + y) = r) (ha : -9223372036854775808 ≤ x ∧ x ≤ 9223372036854775807) (hb : -9223372036854775808 ≤ y ∧ y ≤ 9223372036854775807) :
    ∀ w, OpsAt w → Calls Tryd.prog 18 #[.int .i64 x, .int .i64 y] w fun e' w' => e' = .returned (.int .i64 r) ∧ Below w.heap.size w w' := by
  intro w ho
  have H := hid (come_is (op := 4) (show opS 4 x y = r from hr) (by decide) (by decide) ha hb w ho)
  clear hr ho
  go_enter Tryd.func18, Tryd.ntmps18
  go_wp2_with fail
  refine H.out.mono ?_
  rintro e' w1 ⟨rfl, hb1⟩
  go_wp2_with fail
  go_ret
  exact ⟨rfl, hb1⟩
set_option maxRecDepth 100000 in
set_option maxHeartbeats 4000000 in
theorem mul_is {x y r : Int} (hr : wrap64 (x * y) = r) (ha : -9223372036854775808 ≤ x ∧ x ≤ 9223372036854775807) (hb : -9223372036854775808 ≤ y ∧ y ≤ 9223372036854775807) :
    ∀ w, OpsAt w → Calls Tryd.prog 20 #[.int .i64 x, .int .i64 y] w fun e' w' => e' = .returned (.int .i64 r) ∧ Below w.heap.size w w' := by
  intro w ho
  have H := hid (come_is (op := 6) (show opS 6 x y = r from hr) (by decide) (by decide) ha hb w ho)
  clear hr ho
  go_enter Tryd.func20, Tryd.ntmps20
  go_wp2_with fail
  refine H.out.mono ?_
  rintro e' w1 ⟨rfl, hb1⟩
  go_wp2_with fail
  go_ret
  exact ⟨rfl, hb1⟩

set_option maxRecDepth 100000 in
set_option maxHeartbeats 4000000 in
theorem exprRound_core (a b c P1 P2 P3 M1 M2 M3 M4 D X Y Z : Int) (w : World) (ho : OpsAt w)
    (K0 : ∀ w, OpsAt w → Calls Tryd.prog 18 #[.int .i64 a, .int .i64 b] w fun e' w' => e' = .returned (.int .i64 P1) ∧ Below w.heap.size w w')
    (K1 : ∀ w, OpsAt w → Calls Tryd.prog 19 #[.int .u8 5, .int .i64 P1, .int .i64 b] w fun e' w' => e' = .returned (.int .i64 a) ∧ Below w.heap.size w w')
    (K2 : ∀ w, OpsAt w → Calls Tryd.prog 18 #[.int .i64 b, .int .i64 a] w fun e' w' => e' = .returned (.int .i64 P1) ∧ Below w.heap.size w w')
    (K3 : ∀ w, OpsAt w → Calls Tryd.prog 18 #[.int .i64 P1, .int .i64 c] w fun e' w' => e' = .returned (.int .i64 P2) ∧ Below w.heap.size w w')
    (K4 : ∀ w, OpsAt w → Calls Tryd.prog 18 #[.int .i64 b, .int .i64 c] w fun e' w' => e' = .returned (.int .i64 P3) ∧ Below w.heap.size w w')
    (K5 : ∀ w, OpsAt w → Calls Tryd.prog 18 #[.int .i64 a, .int .i64 P3] w fun e' w' => e' = .returned (.int .i64 P2) ∧ Below w.heap.size w w')
    (K6 : ∀ w, OpsAt w → Calls Tryd.prog 20 #[.int .i64 a, .int .i64 b] w fun e' w' => e' = .returned (.int .i64 M1) ∧ Below w.heap.size w w')
    (K7 : ∀ w, OpsAt w → Calls Tryd.prog 20 #[.int .i64 b, .int .i64 a] w fun e' w' => e' = .returned (.int .i64 M1) ∧ Below w.heap.size w w')
    (K8 : ∀ w, OpsAt w → Calls Tryd.prog 20 #[.int .i64 M1, .int .i64 c] w fun e' w' => e' = .returned (.int .i64 M2) ∧ Below w.heap.size w w')
    (K9 : ∀ w, OpsAt w → Calls Tryd.prog 20 #[.int .i64 b, .int .i64 c] w fun e' w' => e' = .returned (.int .i64 M3) ∧ Below w.heap.size w w')
    (K10 : ∀ w, OpsAt w → Calls Tryd.prog 20 #[.int .i64 a, .int .i64 M3] w fun e' w' => e' = .returned (.int .i64 M2) ∧ Below w.heap.size w w')
    (K11 : ∀ w, OpsAt w → Calls Tryd.prog 20 #[.int .i64 a, .int .i64 P3] w fun e' w' => e' = .returned (.int .i64 D) ∧ Below w.heap.size w w')
    (K12 : ∀ w, OpsAt w → Calls Tryd.prog 20 #[.int .i64 a, .int .i64 c] w fun e' w' => e' = .returned (.int .i64 M4) ∧ Below w.heap.size w w')
    (K13 : ∀ w, OpsAt w → Calls Tryd.prog 18 #[.int .i64 M1, .int .i64 M4] w fun e' w' => e' = .returned (.int .i64 D) ∧ Below w.heap.size w w')
    (K14 : ∀ w, OpsAt w → Calls Tryd.prog 20 #[.int .i64 a, .int .i64 1] w fun e' w' => e' = .returned (.int .i64 a) ∧ Below w.heap.size w w')
    (K15 : ∀ w, OpsAt w → Calls Tryd.prog 18 #[.int .i64 a, .int .i64 0] w fun e' w' => e' = .returned (.int .i64 a) ∧ Below w.heap.size w w')
    (K16 : ∀ w, OpsAt w → Calls Tryd.prog 19 #[.int .u8 7, .int .i64 a, .int .i64 b] w fun e' w' => e' = .returned (.int .i64 X) ∧ Below w.heap.size w w')
    (K17 : ∀ w, OpsAt w → Calls Tryd.prog 19 #[.int .u8 7, .int .i64 b, .int .i64 a] w fun e' w' => e' = .returned (.int .i64 Y) ∧ Below w.heap.size w w')
    (K18 : ∀ w, OpsAt w → Calls Tryd.prog 19 #[.int .u8 8, .int .i64 a, .int .i64 b] w fun e' w' => e' = .returned (.int .i64 Z) ∧ Below w.heap.size w w')
    (hA : ∀ w, OpsAt w → Calls Tryd.prog 12 #[] w fun e' w' => e' = .returned (.bool true) ∧ Below w.heap.size w w')
    (hxyz : (X = 1 ∧ Y = 0 ∧ Z = 0 ∧ a < b) ∨ (X = 0 ∧ Y = 1 ∧ Z = 0 ∧ b < a) ∨ (X = 0 ∧ Y = 0 ∧ Z = 1 ∧ a = b)) :
    Calls Tryd.prog 5 #[.int .i64 a, .int .i64 b, .int .i64 c] w fun e' w' => e' = .returned (.bool true) ∧ Below w.heap.size w w' := by
  have HO := hid ho; clear ho
  have HA := hid hA; clear hA
  replace K0 := hid K0
  replace K1 := hid K1
  replace K2 := hid K2
  replace K3 := hid K3
  replace K4 := hid K4
  replace K5 := hid K5
  replace K6 := hid K6
  replace K7 := hid K7
  replace K8 := hid K8
  replace K9 := hid K9
  replace K10 := hid K10
  replace K11 := hid K11
  replace K12 := hid K12
  replace K13 := hid K13
  replace K14 := hid K14
  replace K15 := hid K15
  replace K16 := hid K16
  replace K17 := hid K17
  replace K18 := hid K18
  have HX := hid hxyz; clear hxyz
  go_enter Tryd.func5, Tryd.ntmps5
  go_wp2_with fail
  refine (HA.out _ HO.out).mono ?_
  rintro e' w1 ⟨rfl, hE⟩
  go_wp2_with fail
  refine (K0.out _ (HO.out.below hE)).mono ?_
  rintro e' w2 ⟨rfl, hb⟩
  replace hE := ext_trans hE hb
  clear hb
  go_wp2_with fail
  refine (K1.out _ (HO.out.below hE)).mono ?_
  rintro e' w3 ⟨rfl, hb⟩
  replace hE := ext_trans hE hb
  clear hb
  go_wp2_with fail
  refine (K0.out _ (HO.out.below hE)).mono ?_
  rintro e' w4 ⟨rfl, hb⟩
  replace hE := ext_trans hE hb
  clear hb
  go_wp2_with fail
  refine (K2.out _ (HO.out.below hE)).mono ?_
  rintro e' w5 ⟨rfl, hb⟩
  replace hE := ext_trans hE hb
  clear hb
  go_wp2_with fail
  refine (K0.out _ (HO.out.below hE)).mono ?_
  rintro e' w6 ⟨rfl, hb⟩
  replace hE := ext_trans hE hb
  clear hb
  go_wp2_with fail
  refine (K3.out _ (HO.out.below hE)).mono ?_
  rintro e' w7 ⟨rfl, hb⟩
  replace hE := ext_trans hE hb
  clear hb
  go_wp2_with fail
  refine (K4.out _ (HO.out.below hE)).mono ?_
  rintro e' w8 ⟨rfl, hb⟩
  replace hE := ext_trans hE hb
  clear hb
  go_wp2_with fail
  refine (K5.out _ (HO.out.below hE)).mono ?_
  rintro e' w9 ⟨rfl, hb⟩
  replace hE := ext_trans hE hb
  clear hb
  go_wp2_with fail
  refine (K6.out _ (HO.out.below hE)).mono ?_
  rintro e' w10 ⟨rfl, hb⟩
  replace hE := ext_trans hE hb
  clear hb
  go_wp2_with fail
  refine (K7.out _ (HO.out.below hE)).mono ?_
  rintro e' w11 ⟨rfl, hb⟩
  replace hE := ext_trans hE hb
  clear hb
  go_wp2_with fail
  refine (K6.out _ (HO.out.below hE)).mono ?_
  rintro e' w12 ⟨rfl, hb⟩
  replace hE := ext_trans hE hb
  clear hb
  go_wp2_with fail
  refine (K8.out _ (HO.out.below hE)).mono ?_
  rintro e' w13 ⟨rfl, hb⟩
  replace hE := ext_trans hE hb
  clear hb
  go_wp2_with fail
  refine (K9.out _ (HO.out.below hE)).mono ?_
  rintro e' w14 ⟨rfl, hb⟩
  replace hE := ext_trans hE hb
  clear hb
  go_wp2_with fail
  refine (K10.out _ (HO.out.below hE)).mono ?_
  rintro e' w15 ⟨rfl, hb⟩
  replace hE := ext_trans hE hb
  clear hb
  go_wp2_with fail
  refine (K4.out _ (HO.out.below hE)).mono ?_
  rintro e' w16 ⟨rfl, hb⟩
  replace hE := ext_trans hE hb
  clear hb
  go_wp2_with fail
  refine (K11.out _ (HO.out.below hE)).mono ?_
  rintro e' w17 ⟨rfl, hb⟩
  replace hE := ext_trans hE hb
  clear hb
  go_wp2_with fail
  refine (K6.out _ (HO.out.below hE)).mono ?_
  rintro e' w18 ⟨rfl, hb⟩
  replace hE := ext_trans hE hb
  clear hb
  go_wp2_with fail
  refine (K12.out _ (HO.out.below hE)).mono ?_
  rintro e' w19 ⟨rfl, hb⟩
  replace hE := ext_trans hE hb
  clear hb
  go_wp2_with fail
  refine (K13.out _ (HO.out.below hE)).mono ?_
  rintro e' w20 ⟨rfl, hb⟩
  replace hE := ext_trans hE hb
  clear hb
  go_wp2_with fail
  refine (K14.out _ (HO.out.below hE)).mono ?_
  rintro e' w21 ⟨rfl, hb⟩
  replace hE := ext_trans hE hb
  clear hb
  go_wp2_with fail
  refine (K15.out _ (HO.out.below hE)).mono ?_
  rintro e' w22 ⟨rfl, hb⟩
  replace hE := ext_trans hE hb
  clear hb
  go_wp2_with fail
  refine (K16.out _ (HO.out.below hE)).mono ?_
  rintro e' w23 ⟨rfl, hb⟩
  replace hE := ext_trans hE hb
  clear hb
  go_wp2_with fail
  refine (K17.out _ (HO.out.below hE)).mono ?_
  rintro e' w24 ⟨rfl, hb⟩
  replace hE := ext_trans hE hb
  clear hb
  go_wp2_with fail
  refine (K18.out _ (HO.out.below hE)).mono ?_
  rintro e' w25 ⟨rfl, hb⟩
  replace hE := ext_trans hE hb
  clear hb
  rcases HX.out with ⟨rfl, rfl, rfl, hlt⟩ | ⟨rfl, rfl, rfl, hlt⟩ | ⟨rfl, rfl, rfl, rfl⟩
  · have hne : (a == b) = false := by rw [beq_eq_false_iff_ne]; omega
    go_wp2_with fail
    go_ret
    exact ⟨rfl, hE⟩
  · have hne : (a == b) = false := by rw [beq_eq_false_iff_ne]; omega
    go_wp2_with fail
    go_ret
    exact ⟨ret_bool (by simp; omega), hE⟩
  · go_wp2_with fail
    go_ret
    exact ⟨rfl, hE⟩

theorem exprRound_walk (a b c : Int) (w : World) (ha : -9223372036854775808 ≤ a ∧ a ≤ 9223372036854775807) (hb : -9223372036854775808 ≤ b ∧ b ≤ 9223372036854775807) (hc : -9223372036854775808 ≤ c ∧ c ≤ 9223372036854775807) (ho : OpsAt w) :
    Calls Tryd.prog 5 #[.int .i64 a, .int .i64 b, .int .i64 c] w fun e' w' => e' = .returned (.bool true) ∧ Below w.heap.size w w' := by
  refine exprRound_core a b c (wrap64 (a + b)) (wrap64 (a + b + c)) (wrap64 (b + c)) (wrap64 (a * b)) (wrap64 (a * b * c)) (wrap64 (b * c)) (wrap64 (a * c)) (wrap64 (a * b + a * c)) (opS 7 a b) (opS 7 b a) (opS 8 a b) w ho
    (add_is rfl ha hb) (come_is ?_ (by decide) (by decide) (wrap64_bd _) hb) (add_is (by rw [Int.add_comm]) hb ha) (add_is (wrap64_add_left _ _) (wrap64_bd _) hc) (add_is rfl hb hc) (add_is ?_ ha (wrap64_bd _))
    (mul_is rfl ha hb) (mul_is (by rw [Int.mul_comm]) hb ha) (mul_is (wrap64_mul_left _ _) (wrap64_bd _) hc) (mul_is rfl hb hc) (mul_is ?_ ha (wrap64_bd _)) (mul_is ?_ ha (wrap64_bd _)) (mul_is rfl ha hc) (add_is ?_ (wrap64_bd _) (wrap64_bd _))
    (mul_is ?_ ha (by decide)) (add_is ?_ ha (by decide)) (come_is rfl (by decide) (by decide) ha hb) (come_is rfl (by decide) (by decide) hb ha) (come_is rfl (by decide) (by decide) ha hb) awake_any ?_
  · show wrap64 (wrap64 (a + b) - b) = a
    rw [wrap64_sub_left, Int.add_sub_cancel, wrap64_id ha]
  · rw [wrap64_add_right, Int.add_assoc]
  · rw [wrap64_mul_right, Int.mul_assoc]
  · rw [wrap64_mul_right, Int.mul_add]
  · rw [wrap64_add_left, wrap64_add_right]
  · rw [Int.mul_one, wrap64_id ha]
  · rw [Int.add_zero, wrap64_id ha]
  · unfold opS
    simp only [show ¬ (7 : Int) = 4 by decide, show ¬ (7 : Int) = 5 by decide, show ¬ (7 : Int) = 6 by decide, show ¬ (8 : Int) = 4 by decide, show ¬ (8 : Int) = 5 by decide, show ¬ (8 : Int) = 6 by decide, show ¬ (8 : Int) = 7 by decide, if_true, if_false]
    rcases Int.lt_trichotomy a b with h | h | h
    · left; rw [if_pos h, if_neg (by omega), if_neg (by omega)]; omega
    · right; right; rw [if_neg (by omega), if_neg (by omega), if_pos h]; omega
    · right; left; rw [if_neg (by omega), if_pos h, if_neg (by omega)]; omega
end Go.Proofs.YtonckpblbdopmaaDoor
