/-
  The examples (awake) answer true, wherever the table of operators is known. And the law on Variable.
-/
import Derived.Test.YtonckpblbdopmaaDoorExW8
namespace Go.Proofs.YtonckpblbdopmaaDoor
set_option linter.unusedVariables false
open Go Go.RowKit

theorem RdEx.leaf (w : World) (op n : Int) (h : 0 ≤ op ∧ op ≤ 255) (h' : -9223372036854775808 ≤ n ∧ n ≤ 9223372036854775807) : RdEx w (.mk op n []) (.int .u8 op) (.int .i64 n) (.slice none 0 0) := by
  unfold RdEx
  exact ⟨rfl, rfl, h, h', none, 0, rfl, by simp, fun h => absurd rfl h⟩
theorem RdEx.two {w : World} {op : Int} {x y : Ex} {b off cap : Nat} (h : 0 ≤ op ∧ op ≤ 255) {v0 v1 v2 u0 u1 u2 : Value} (c0 : w.cell? ⟨b, off, none⟩ = some v0) (c1 : w.cell? ⟨b, off + 1, none⟩ = some v1) (c2 : w.cell? ⟨b, off + 2, none⟩ = some v2)
    (d0 : w.cell? ⟨b, off + 3, none⟩ = some u0) (d1 : w.cell? ⟨b, off + 3 + 1, none⟩ = some u1) (d2 : w.cell? ⟨b, off + 3 + 2, none⟩ = some u2) (hx : RdEx w x v0 v1 v2) (hy : RdEx w y u0 u1 u2) :
    RdEx w (.mk op 0 [x, y]) (.int .u8 op) (.int .i64 0) (.slice (some ⟨b, off, none⟩) 2 cap) := by
  unfold RdEx
  refine ⟨rfl, rfl, h, by omega, _, cap, rfl, by simp, fun _ => ⟨b, off, rfl, ?_⟩⟩
  unfold RdExs RdExs RdExs
  exact ⟨⟨v0, v1, v2, c0, c1, c2, hx⟩, ⟨u0, u1, u2, d0, d1, d2, hy⟩, trivial⟩
theorem RdInts.nil (w : World) : RdInts w [] (.slice none 0 0) := ⟨none, 0, rfl, by simp, by simp, fun h => absurd rfl h⟩
theorem RdInts.two {w : World} {b cap : Nat} {x y : Int} (h : ∀ z ∈ [x, y], -9223372036854775808 ≤ z ∧ z ≤ 9223372036854775807) (c0 : w.cell? ⟨b, 0, none⟩ = some (.int .i64 x)) (c1 : w.cell? ⟨b, 1, none⟩ = some (.int .i64 y)) :
    RdInts w [x, y] (.slice (some ⟨b, 0, none⟩) 2 cap) := by
  refine ⟨_, cap, rfl, by simp, h, fun _ => ⟨b, 0, rfl, fun k hk => ?_⟩⟩
  match k, hk with
  | 0, _ => exact c0
  | 1, _ => exact c1

set_option maxRecDepth 100000 in
set_option maxHeartbeats 4000000 in
theorem awake_any (w : World) (ho : OpsAt w) : Calls Tryd.prog 12 #[] w fun e' w' => e' = .returned (.bool true) ∧ Below w.heap.size w w' := by
  have HO := hid ho; clear ho
  go_enter Tryd.func12, Tryd.ntmps12
  go_wp2_with fail
  have hA := ext_alloc (ext_alloc (ext_refl w) (.cells #[.int .u8 1, .int .i64 2, .slice none 0 0, .int .u8 2, .int .i64 1, .slice none 0 0] 29)) (.cells #[.int .i64 0, .int .i64 5] 2)
  refine (eval_any [0, 5] [] (.mk 4 0 [.mk 1 2 [], .mk 2 1 []]) _ _ _ _ _ _ ?_ ?_ (RdInts.nil _) (HO.out.below hA)).mono ?_
  · exact RdEx.two (by decide) (by simp) (by simp) (by simp) (by simp) (by simp) (by simp) (RdEx.leaf _ _ _ (by decide) (by decide)) (RdEx.leaf _ _ _ (by decide) (by decide))
  · exact RdInts.two (by decide) (by simp) (by simp)
  rw [show evalS [0, 5] [] (.mk 4 0 [.mk 1 2 [], .mk 2 1 []]) = (7, 0) by decide +kernel]
  rintro e' w1 ⟨rfl, hb1⟩
  have hE := ext_trans hA hb1
  go_wp2_with fail
  have hA1 := ext_alloc hE (.cells #[.int .u8 1, .int .i64 (-1), .slice none 0 0, .int .u8 1, .int .i64 0, .slice none 0 0] 29)
  refine (eval_any [] [] (.mk 7 0 [.mk 1 (-1) [], .mk 1 0 []]) _ _ _ _ _ _ ?_ (RdInts.nil _) (RdInts.nil _) (HO.out.below hA1)).mono ?_
  · exact RdEx.two (by decide) (by simp) (by simp) (by simp) (by simp) (by simp) (by simp) (RdEx.leaf _ _ _ (by decide) (by decide)) (RdEx.leaf _ _ _ (by decide) (by decide))
  rw [show evalS [] [] (.mk 7 0 [.mk 1 (-1) [], .mk 1 0 []]) = (1, 0) by decide +kernel]
  rintro e' w2 ⟨rfl, hb2⟩
  have hE2 := ext_trans hA1 hb2
  go_wp2_with fail
  refine (variable_any (-1) 4 _ (by decide)).mono ?_
  rw [show varS (-1) 4 = (3, 0) by decide +kernel]
  rintro e' w3 ⟨rfl, rfl⟩
  go_wp2_with fail
  refine (may_any (.mk 3 0 []) 0 _ _ _ _ (RdEx.leaf _ _ _ (by decide) (by decide))).mono ?_
  rw [show mayS (.mk 3 0 []) 0 = false by decide +kernel]
  rintro e' w4 ⟨rfl, hb4⟩
  go_wp2_with fail
  go_ret
  exact ⟨rfl, ext_trans hE2 hb4⟩

set_option maxRecDepth 100000 in
set_option maxHeartbeats 4000000 in
theorem exprVariable_walk (x v : Int) (w : World) (hv : v ≤ 9223372036854775807) (ho : OpsAt w) :
    Calls Tryd.prog 3 #[.int .i64 x, .int .i64 v] w fun e' w' => e' = .returned (.bool true) ∧ Below w.heap.size w w' := by
  have HO := hid ho; clear ho
  have H1 := variable_any x v w hv
  have H2 := rvariable_any x v w hv
  generalize varS x v = r at H1 H2
  obtain ⟨r1, r2⟩ := r
  have H1 := hid H1
  have H2 := hid H2
  go_enter Tryd.func3, Tryd.ntmps3
  go_wp2_with fail
  refine H1.out.mono ?_
  rintro e' w1 ⟨rfl, rfl⟩
  go_wp2_with fail
  refine H2.out.mono ?_
  rintro e' w1 ⟨rfl, rfl⟩
  go_wp2_with fail
  refine (awake_any _ HO.out).mono ?_
  rintro e' w1 ⟨rfl, hb1⟩
  go_wp2_with fail
  go_ret
  exact ⟨rfl, hb1⟩
end Go.Proofs.YtonckpblbdopmaaDoor
