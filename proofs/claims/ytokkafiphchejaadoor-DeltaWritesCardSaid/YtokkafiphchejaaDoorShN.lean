/-
  event.May: what it comes to.
-/
import Derived.Test.YtokkafiphchejaaDoorShF
import Derived.Test.YtokkafiphchejaaDoorShG
import Derived.Test.YtokkafiphchejaaDoorShH
import Derived.Test.YtokkafiphchejaaDoorShM
namespace Go.Proofs.YtokkafiphchejaaDoor
set_option linter.unusedVariables false
open Go Go.RowKit

theorem bare_ok (e : Ev) (he : EvOk e) (hk : 1 ≤ e.kind ∧ e.kind ≤ 13) : BareOk e := by
  intro w hK
  obtain ⟨kind, th, tx, at_, v, x, why⟩ := e
  dsimp only at hk
  have hc : kind = 1 ∨ kind = 2 ∨ kind = 3 ∨ kind = 4 ∨ kind = 5 ∨ kind = 6 ∨ kind = 7 ∨ kind = 8 ∨ kind = 9 ∨ kind = 10 ∨ kind = 11 ∨ kind = 12 ∨ kind = 13 := by omega
  rcases hc with rfl | rfl | rfl | rfl | rfl | rfl | rfl | rfl | rfl | rfl | rfl | rfl | rfl
  · exact bare_1 th tx at_ v x why w hK he
  · exact bare_2 th tx at_ v x why w hK he
  · exact bare_3 th tx at_ v x why w hK he
  · exact bare_4 th tx at_ v x why w hK he
  · exact bare_5 th tx at_ v x why w hK he
  · exact bare_6 th tx at_ v x why w hK he
  · exact bare_7 th tx at_ v x why w hK he
  · exact bare_8 th tx at_ v x why w hK he
  · exact bare_9 th tx at_ v x why w hK he
  · exact bare_10 th tx at_ v x why w hK he
  · exact bare_11 th tx at_ v x why w hK he
  · exact bare_12 th tx at_ v x why w hK he
  · exact bare_13 th tx at_ v x why w hK he

theorem may_any (e : Ev) (T V S : Int) (w : World) (he : EvOk e) (hK : KindsAt w) :
    Calls Tryd.prog 27 #[evA e, .int .i64 T, .int .i64 V, .int .i64 S] w fun e' w' => e' = .returned (.bool (mayE e T V S)) ∧ Below w.heap.size w w' := by
  by_cases h1 : (sizesB T V S && inB e.kind 1 13) = false
  · have hm : mayE e T V S = false := by
      unfold mayE
      cases hs : sizesB T V S with
      | false => rfl
      | true =>
        rw [hs] at h1
        have : ¬ (1 ≤ e.kind ∧ e.kind ≤ 13) := by simpa [inB] using h1
        rw [decide_eq_false (by omega), Bool.and_false, Bool.false_and]
    rw [hm]; exact may_sizes e T V S w h1
  have h1' : sizesB T V S = true ∧ inB e.kind 1 13 = true := by
    revert h1; cases sizesB T V S <;> cases inB e.kind 1 13 <;> simp
  have hk : 1 ≤ e.kind ∧ e.kind ≤ 13 := by simpa [inB] using h1'.2
  have hs : 1 ≤ T ∧ T ≤ 6 ∧ 1 ≤ V ∧ V ≤ 32 ∧ 1 ≤ S ∧ S ≤ V := by simpa [sizesB] using h1'.1
  have a1 : inB T 1 6 = true := by simp [inB]; omega
  have a2 : inB V 1 32 = true := by simp [inB]; omega
  have a3 : inB S 1 V = true := by simp [inB]; omega
  by_cases hw : e.kind = 10 ∧ (e.why < 1 ∨ 6 < e.why)
  · have hm : mayE e T V S = false := by
      unfold mayE
      rw [decide_eq_false (p := 1 ≤ e.kind ∧ _) (by omega), Bool.and_false, Bool.false_and]
    rw [hm]; exact may_why e T V S w a1 a2 a3 h1'.2 hw.1 hw.2
  · have hw' : e.kind = 10 → 1 ≤ e.why ∧ e.why ≤ 6 := by omega
    have hm : mayE e T V S = (lastB e T V S && evEqB e (bareE e)) := by
      unfold mayE lastB inB evEqB
      rw [h1'.1, Bool.true_and]
      congr 1
      rw [← Bool.decide_and, ← Bool.decide_and, ← Bool.decide_and]
      apply decide_eq_decide.2
      omega
    rw [hm]; exact may_last e T V S w (bare_ok e he hk) hK a1 a2 a3 h1'.2 hw'
end Go.Proofs.YtokkafiphchejaaDoor
