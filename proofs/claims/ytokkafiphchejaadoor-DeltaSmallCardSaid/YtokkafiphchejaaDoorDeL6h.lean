/-
  Regions with one call, and nothing stored: of any program.
-/
import Derived.Test.YtokkafiphchejaaDoorDeL1b
namespace Go.Proofs.YtokkafiphchejaaDoor
set_option linter.unusedVariables false
open Go Go.RowKit
structure LQ {σ : Type} (W : World) (ks : List Nat) (At : σ → World → Prop) (s' : σ) (ci : Nat) (l : Nat → Bool) (w' : World) : Prop where
  pre : l ci = false → w' = W.drew
  mid : l ci = true → At s' w' ∧ Turn ks W w'
section
variable {σ : Type} {W : World} {ks : List Nat} {At : σ → World → Prop} {s' : σ} {n ci : Nat} {l l' : Nat → Bool} {w' w'' : World}
theorem LQ.ext (hci : ci < n) (h : ∀ i, i < n → l i = l' i) (H : LQ W ks At s' ci l w') : LQ W ks At s' ci l' w' where
  pre g := H.pre (by rw [h ci hci]; exact g)
  mid g := H.mid (by rw [h ci hci]; exact g)
theorem LQ.start : LQ W ks At s' ci (fun _ => false) W.drew := ⟨fun _ => rfl, fun h => by (cases h)⟩
theorem LQ.turn (H : LQ W ks At s' ci l w') : Turn ks W w' := by
  cases hc : l ci with
  | false => rw [H.pre hc]; exact (Turn.refl _ _).drew
  | true => exact (H.mid hc).2
theorem LQ.put (H : LQ W ks At s' ci l w') (i : Nat) (hnc : i ≠ ci) : LQ W ks At s' ci (doneL l i) w' := by
  have e2 : doneL l i ci = l ci := by unfold doneL; rw [if_neg (Ne.symm hnc)]
  exact ⟨fun g => H.pre (by rw [← e2]; exact g), fun g => H.mid (by rw [← e2]; exact g)⟩
theorem LQ.call (ha : At s' w'') (ht : Turn ks W.drew w'') : LQ W ks At s' ci (doneL l ci) w'' := by
  have e2 : doneL l ci ci = true := by unfold doneL; rw [if_pos rfl]
  exact ⟨fun g => by (rw [e2] at g; cases g), fun _ => ⟨ha, ((Turn.refl ks W).drew).trans ht⟩⟩
end
end Go.Proofs.YtokkafiphchejaaDoor
