/-
  Regions of a line with one call and no store; with one store and no call; with two stores. Of any program.
-/
import Derived.Test.YtokkafiphchejaaDoorDeL2
import Derived.Test.YtokkafiphchejaaDoorReg9
namespace Go.Proofs.YtokkafiphchejaaDoor
set_option linter.unusedVariables false
set_option linter.unusedSimpArgs false
open Go Go.RowKit
/-- One call; the last operation keeps what it tells. -/
structure LK {σ : Type} (W : World) (ks : List Nat) (At : σ → World → Prop) (s' : σ) (n ci si : Nat) (l : Nat → Bool) (w' : World) : Prop where
  ord : l si = true → ∀ i, i < n → i ≠ si → l i = true
  pre : l ci = false → w' = W.drew
  mid : l ci = true → At s' w' ∧ Turn ks W w'
section
variable {σ : Type} {W : World} {ks : List Nat} {At : σ → World → Prop} {s' : σ} {n ci si : Nat} {l l' : Nat → Bool} {w' w'' : World}
theorem LK.ext (hci : ci < n) (hsi : si < n) (h : ∀ i, i < n → l i = l' i) (H : LK W ks At s' n ci si l w') : LK W ks At s' n ci si l' w' where
  ord g i hi hne := by rw [← h i hi]; exact H.ord (by rw [h si hsi]; exact g) i hi hne
  pre g := H.pre (by rw [h ci hci]; exact g)
  mid g := H.mid (by rw [h ci hci]; exact g)
theorem LK.start : LK W ks At s' n ci si (fun _ => false) W.drew := ⟨fun h => by (cases h), fun _ => rfl, fun h => by (cases h)⟩
theorem LK.not (H : LK W ks At s' n ci si l w') {i : Nat} (hi : i < n) (hne : i ≠ si) (hl : l i = false) : l si = false := by
  cases h : l si with
  | false => rfl
  | true => rw [H.ord h i hi hne] at hl; cases hl
theorem LK.turn (H : LK W ks At s' n ci si l w') : Turn ks W w' := by
  cases hc : l ci with
  | false => rw [H.pre hc]; exact (Turn.refl _ _).drew
  | true => exact (H.mid hc).2
theorem LK.put (H : LK W ks At s' n ci si l w') {i : Nat} (hi : i < n) (hne : i ≠ si) (hnc : i ≠ ci) (hl : l i = false) : LK W ks At s' n ci si (doneL l i) w' := by
  have h0 := H.not hi hne hl
  have e1 : doneL l i si = false := by unfold doneL; rw [if_neg (Ne.symm hne)]; exact h0
  have e2 : doneL l i ci = l ci := by unfold doneL; rw [if_neg (Ne.symm hnc)]
  exact ⟨fun g => by (rw [e1] at g; cases g), fun g => H.pre (by rw [← e2]; exact g), fun g => H.mid (by rw [← e2]; exact g)⟩
theorem LK.last (H : LK W ks At s' n ci si l w') (hne : si ≠ ci) (hall : ∀ i, i < n → i ≠ si → l i = true) : LK W ks At s' n ci si (doneL l si) w' := by
  have e2 : doneL l si ci = l ci := by unfold doneL; rw [if_neg (Ne.symm hne)]
  exact ⟨fun _ i hi hn => by (unfold doneL; rw [if_neg hn]; exact hall i hi hn), fun g => H.pre (by rw [← e2]; exact g), fun g => H.mid (by rw [← e2]; exact g)⟩
theorem LK.call (H : LK W ks At s' n ci si l w') (hci : ci < n) (hne : ci ≠ si) (hl : l ci = false) (ha : At s' w'') (ht : Turn ks W.drew w'') : LK W ks At s' n ci si (doneL l ci) w'' := by
  have h0 := H.not hci hne hl
  have e1 : doneL l ci si = false := by unfold doneL; rw [if_neg (Ne.symm hne)]; exact h0
  have e2 : doneL l ci ci = true := by unfold doneL; rw [if_pos rfl]
  exact ⟨fun g => by (rw [e1] at g; cases g), fun g => by (rw [e2] at g; cases g), fun _ => ⟨ha, ((Turn.refl ks W).drew).trans ht⟩⟩
/-- One store, the last. -/
structure LS (W : World) (p : Addr) (v : Value) (n si : Nat) (l : Nat → Bool) (w' : World) : Prop where
  ord : l si = true → ∀ i, i < n → i ≠ si → l i = true
  pre : l si = false → w' = W.drew
  fin : l si = true → w' = W.drew.setCell p v
  d1 : l (si - 1) = true → l (si - 2) = true
  d2 : l (si - 2) = true → l (si - 3) = true
variable {p : Addr} {v : Value}
theorem LS.ext (hsi : si < n) (h : ∀ i, i < n → l i = l' i) (H : LS W p v n si l w') : LS W p v n si l' w' where
  ord g i hi hne := by rw [← h i hi]; exact H.ord (by rw [h si hsi]; exact g) i hi hne
  pre g := H.pre (by rw [h si hsi]; exact g)
  fin g := H.fin (by rw [h si hsi]; exact g)
  d1 g := by rw [← h _ (by omega)]; exact H.d1 (by rw [h _ (by omega)]; exact g)
  d2 g := by rw [← h _ (by omega)]; exact H.d2 (by rw [h _ (by omega)]; exact g)
theorem LS.start : LS W p v n si (fun _ => false) W.drew := ⟨fun h => by (cases h), fun _ => rfl, fun h => by (cases h), fun h => by (cases h), fun h => by (cases h)⟩
theorem LS.not (H : LS W p v n si l w') {i : Nat} (hi : i < n) (hne : i ≠ si) (hl : l i = false) : l si = false := by
  cases h : l si with
  | false => rfl
  | true => rw [H.ord h i hi hne] at hl; cases hl
theorem LS.put (H : LS W p v n si l w') {i : Nat} (hi : i < n) (hne : i ≠ si) (hl : l i = false) (hd1 : si - 1 = i → l (si - 2) = true) (hd2 : si - 2 = i → l (si - 3) = true) : LS W p v n si (doneL l i) w' := by
  have h0 := H.not hi hne hl
  have e1 : doneL l i si = false := by unfold doneL; rw [if_neg (Ne.symm hne)]; exact h0
  exact ⟨fun g => by (rw [e1] at g; cases g), fun _ => H.pre h0, fun g => by (rw [e1] at g; cases g), doneL_mono H.d1 hd1, doneL_mono H.d2 hd2⟩
theorem LS.store (H : LS W p v n si l w') (hs : 3 ≤ si) (hl : l si = false) (hall : ∀ i, i < n → i ≠ si → l i = true) : w' = W.drew ∧ LS W p v n si (doneL l si) (W.drew.setCell p v) := by
  have e1 : doneL l si si = true := by unfold doneL; rw [if_pos rfl]
  exact ⟨H.pre hl, fun _ i hi hn => by (unfold doneL; rw [if_neg hn]; exact hall i hi hn), fun g => by (rw [e1] at g; cases g), fun _ => rfl, doneL_mono H.d1 (fun e => by omega), doneL_mono H.d2 (fun e => by omega)⟩
end
section
variable {ops : Array Oper} {l : Nat → Bool} {d : Tmp}
theorem undone_far (h : farOf ops d = true) : ∀ j, dstOf ops j = some d → l j = false := by
  intro j hj
  have hjs : j < ops.size := by
    rcases Nat.lt_or_ge j ops.size with h | h
    · exact h
    · unfold dstOf at hj; rw [Array.getElem?_eq_none h] at hj; simp at hj
  unfold farOf at h
  have := List.all_eq_true.1 h j (List.mem_range.2 hjs)
  simp [hj] at this
theorem undone_one (k : Nat) (h : (List.range ops.size).all (fun j => decide (j = k) || dstOf ops j != some d) = true) (hk : l k = false) : ∀ j, dstOf ops j = some d → l j = false := by
  intro j hj
  have hjs : j < ops.size := by
    rcases Nat.lt_or_ge j ops.size with h | h
    · exact h
    · unfold dstOf at hj; rw [Array.getElem?_eq_none h] at hj; simp at hj
  have := List.all_eq_true.1 h j (List.mem_range.2 hjs)
  rw [Bool.or_eq_true, decide_eq_true_eq] at this
  rcases this with rfl | h2
  · exact hk
  · simp [hj] at h2
/-- The last operation waits for all others. -/
theorem all_last {o : Oper} {n si : Nat} (h : (List.range n).all (fun i => decide (i = si) || (depsOf o).contains i) = true) (hdp : ∀ j, (depsOf o).contains j = true → l j = true) : ∀ i, i < n → i ≠ si → l i = true := by
  intro i hi hne
  have := List.all_eq_true.1 h i (List.mem_range.2 hi)
  simp only [Bool.or_eq_true, decide_eq_true_eq] at this
  rcases this with h1 | h1
  · exact absurd h1 hne
  · exact hdp i h1
end
end Go.Proofs.YtokkafiphchejaaDoor
