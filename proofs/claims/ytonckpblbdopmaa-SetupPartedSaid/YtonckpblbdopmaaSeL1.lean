/-
  Walks: SetupStripes.
-/
import Derived.Test.YtonckpblbdopmaaSeW2
namespace Go.Proofs.Ytonckpblbdopmaa
set_option linter.unusedVariables false
open Go Go.RowKit

set_option maxRecDepth 100000 in
set_option maxHeartbeats 4000000 in
theorem vars_bad (s t n : Int) (w : World) (h : t < 1 ∨ n < 1 ∨ s < 0 ∨ t ≤ s) : Calls Try.prog 31 #[.int .i64 s, .int .i64 t, .int .i64 n] w fun e w' => e = .returned (.tuple #[.slice none 0 0, .int .i64 1]) ∧ w = w' := by
  have hc : t < 1 ∨ (decide (t < 1) = false ∧ n < 1) ∨ (decide (t < 1) = false ∧ decide (n < 1) = false ∧ s < 0) ∨ (decide (t < 1) = false ∧ decide (n < 1) = false ∧ decide (s < 0) = false ∧ t ≤ s) := by
    simp only [decide_eq_false_iff_not]; omega
  clear h
  rcases hc with h | ⟨h1, h2⟩ | ⟨h1, h2, h3⟩ | ⟨h1, h2, h3, h4⟩
  all_goals
    go_enter Try.func31, Try.ntmps31
    go_wp2_with fail
    go_ret2
    exact ⟨rfl, rfl⟩

set_option maxRecDepth 100000 in
set_option maxHeartbeats 4000000 in
theorem rvars_bad (s t n : Int) (w : World) (h : t < 1 ∨ n < 1 ∨ s < 0 ∨ t ≤ s) : Calls Try.prog 32 #[.int .i64 s, .int .i64 t, .int .i64 n] w fun e w' => e = .returned (.tuple #[.slice none 0 0, .int .i64 1]) ∧ w = w' := by
  have hc : t < 1 ∨ (decide (t < 1) = false ∧ n < 1) ∨ (decide (t < 1) = false ∧ decide (n < 1) = false ∧ s < 0) ∨ (decide (t < 1) = false ∧ decide (n < 1) = false ∧ decide (s < 0) = false ∧ t ≤ s) := by
    simp only [decide_eq_false_iff_not]; omega
  clear h
  rcases hc with h | ⟨h1, h2⟩ | ⟨h1, h2, h3⟩ | ⟨h1, h2, h3, h4⟩
  all_goals
    go_enter Try.func32, Try.ntmps32
    go_wp2_with fail
    go_ret2
    exact ⟨rfl, rfl⟩

theorem rdInts_nil (w : World) : RdInts w [] (.slice none 0 0) := ⟨none, 0, rfl, by simp, by simp, fun h => absurd rfl h⟩
set_option maxRecDepth 100000 in
set_option maxHeartbeats 4000000 in
theorem setupStripes_walk (v s t n : Int) (w : World) (hv : v ≤ 9223372036854775807) (hs : s ≤ 9223372036854775807) (ht : t ≤ 9223372036854775807) (hn : n ≤ 9223372036854775807) :
    Calls Try.prog 8 #[.int .i64 v, .int .i64 s, .int .i64 t, .int .i64 n] w fun e w' => e = .returned (.bool true) ∧ Below w.heap.size w w' := by
  by_cases h1 : 5000 < n
  · go_enter Try.func8, Try.ntmps8
    go_wp2_with fail
    refine (sawake_any _).mono ?_
    rintro e' w1 ⟨rfl, hb1⟩
    go_wp2_with fail
    go_ret
    exact ⟨rfl, hb1⟩
  have g1 : decide ((5000 : Int) < n) = false := by rw [decide_eq_false_iff_not]; exact h1
  have HS1 := hid (fun w => stripe_any v t w hv ht)
  have HS2 := hid (fun w => rstripe_any v t w hv ht)
  generalize stripeS v t = r at HS1 HS2
  obtain ⟨r1, r2⟩ := r
  by_cases hbad : t < 1 ∨ n < 1 ∨ s < 0 ∨ t ≤ s
  · have HB := hid hbad
    clear hbad h1
    go_enter Try.func8, Try.ntmps8
    go_wp2_with fail
    refine (HS1.out _).mono ?_
    rintro e' w1 ⟨rfl, rfl⟩
    go_wp2_with fail
    refine (HS2.out _).mono ?_
    rintro e' w1 ⟨rfl, rfl⟩
    go_wp2_with fail
    refine (vars_bad s t n _ HB.out).mono ?_
    rintro e' w1 ⟨rfl, rfl⟩
    go_wp2_with fail
    refine (rvars_bad s t n _ HB.out).mono ?_
    rintro e' w1 ⟨rfl, rfl⟩
    go_wp2_with fail
    refine (numbers_any [] [] _ _ _ (rdInts_nil _) (rdInts_nil _)).mono ?_
    rintro e' w2 ⟨rfl, hb2⟩
    go_wp2_with fail
    refine (sawake_any _).mono ?_
    rintro e' w3 ⟨rfl, hb3⟩
    go_wp2_with fail
    go_ret
    exact ⟨rfl, by repeat (first | assumption | exact ext_refl _ | refine ext_drew ?_ | refine ext_alloc ?_ _ | refine ext_trans ?_ (by assumption))⟩
  · obtain ⟨S, rfl⟩ := Int.eq_ofNat_of_zero_le (show 0 ≤ s by omega)
    obtain ⟨T, rfl⟩ := Int.eq_ofNat_of_zero_le (show 0 ≤ t by omega)
    obtain ⟨N, rfl⟩ := Int.eq_ofNat_of_zero_le (show 0 ≤ n by omega)
    have HV1 := hid (fun w => vars_ok S T N w (by omega) (by omega) (by omega) (by omega))
    have HV2 := hid (fun w => rvars_ok S T N w (by omega) (by omega) (by omega) (by omega))
    clear hbad h1
    go_enter Try.func8, Try.ntmps8
    go_wp2_with fail
    refine (HS1.out _).mono ?_
    rintro e' w1 ⟨rfl, rfl⟩
    go_wp2_with fail
    refine (HS2.out _).mono ?_
    rintro e' w1 ⟨rfl, rfl⟩
    go_wp2_with fail
    refine (HV1.out _).mono ?_
    rintro e' w1 ⟨v1, rfl, hv1, -, hb1⟩
    have HR1 := hid hv1
    clear hv1
    go_wp2_with fail
    refine (HV2.out _).mono ?_
    rintro e' w2 ⟨v2, rfl, hv2, -, hb2⟩
    have HR2 := hid hv2
    clear hv2
    go_wp2_with fail
    refine (numbers_any _ _ _ _ _ (HR1.out.below hb2) HR2.out).mono ?_
    rw [decide_eq_true rfl]
    rintro e' w3 ⟨rfl, hb3⟩
    go_wp2_with fail
    refine (sawake_any _).mono ?_
    rintro e' w4 ⟨rfl, hb4⟩
    go_wp2_with fail
    go_ret
    exact ⟨rfl, by repeat (first | assumption | exact ext_refl _ | refine ext_drew ?_ | refine ext_alloc ?_ _ | refine ext_trans ?_ (by assumption))⟩
end Go.Proofs.Ytonckpblbdopmaa
