/-
  Three copies of one event, made in any order: what holds all along. And what EventJust's plain law is.
-/
import Derived.Test.YtlbpollckiidlaaDoorReg5
import Derived.Test.YtlbpollckiidlaaDoorShE
import Derived.Test.YtlbpollckiidlaaDoorEvS
import Derived.Test.YtlbpollckiidlaaDoorKit
namespace Go.Proofs.YtlbpollckiidlaaDoor
set_option linter.unusedVariables false
set_option linter.unusedSimpArgs false
open Go Go.RowKit
theorem set7 {w : World} {b : Nat} {c0 c1 c2 c3 c4 c5 c6 : Value} {t : TypeId} (h : Blk w b #[c0, c1, c2, c3, c4, c5, c6] t) (v0 v1 v2 v3 v4 v5 v6 : Value) : Blk (((((((w.setCell ⟨b, 0, none⟩ v0).setCell ⟨b, 1, none⟩ v1).setCell ⟨b, 2, none⟩ v2).setCell ⟨b, 3, none⟩ v3).setCell ⟨b, 4, none⟩ v4).setCell ⟨b, 5, none⟩ v5).setCell ⟨b, 6, none⟩ v6) b #[v0, v1, v2, v3, v4, v5, v6] t := by
  have := ((((((h.set 0 v0).set 1 v1).set 2 v2).set 3 v3).set 4 v4).set 5 v5).set 6 v6
  simpa using this
theorem far7 {w : World} {b d : Nat} {cs : Array Value} {t : TypeId} (h : Blk w d cs t) (hne : d ≠ b) (v0 v1 v2 v3 v4 v5 v6 : Value) : Blk (((((((w.setCell ⟨b, 0, none⟩ v0).setCell ⟨b, 1, none⟩ v1).setCell ⟨b, 2, none⟩ v2).setCell ⟨b, 3, none⟩ v3).setCell ⟨b, 4, none⟩ v4).setCell ⟨b, 5, none⟩ v5).setCell ⟨b, 6, none⟩ v6) d cs t :=
  ((((((h.set_other ⟨b, 0, none⟩ v0 hne).set_other ⟨b, 1, none⟩ v1 hne).set_other ⟨b, 2, none⟩ v2 hne).set_other ⟨b, 3, none⟩ v3 hne).set_other ⟨b, 4, none⟩ v4 hne).set_other ⟨b, 5, none⟩ v5 hne).set_other ⟨b, 6, none⟩ v6 hne
theorem low7 {a w : World} {B b : Nat} (h : Below B a w) (hb : B ≤ b) (v0 v1 v2 v3 v4 v5 v6 : Value) : Below B a (((((((w.setCell ⟨b, 0, none⟩ v0).setCell ⟨b, 1, none⟩ v1).setCell ⟨b, 2, none⟩ v2).setCell ⟨b, 3, none⟩ v3).setCell ⟨b, 4, none⟩ v4).setCell ⟨b, 5, none⟩ v5).setCell ⟨b, 6, none⟩ v6) :=
  ((((((h.setCell (p := ⟨b, 0, none⟩) hb v0).setCell (p := ⟨b, 1, none⟩) hb v1).setCell (p := ⟨b, 2, none⟩) hb v2).setCell (p := ⟨b, 3, none⟩) hb v3).setCell (p := ⟨b, 4, none⟩) hb v4).setCell (p := ⟨b, 5, none⟩) hb v5).setCell (p := ⟨b, 6, none⟩) hb v6
theorem arr7 {cs : Array Value} (h : cs.size = 7) : ∃ c0 c1 c2 c3 c4 c5 c6, cs = #[c0, c1, c2, c3, c4, c5, c6] := by
  obtain ⟨l⟩ := cs
  match l, h with
  | [a, b, c, d, e, f, g], _ => exact ⟨a, b, c, d, e, f, g, rfl⟩
structure Cop (w W0 : World) (E : Array Value) (t : TypeId) (l : Nat → Bool) (v : Nat → Value) (w' : World) : Prop where
  low : Below w.heap.size w w'
  mid : Below W0.heap.size W0 w'
  lds : ∀ c, c < 3 → l c = true → v c = .agg E
  als : ∀ c, c < 3 → l (3 + c) = true → ∃ b cs, v (3 + c) = .pointer (some ⟨b, 0, none⟩) ∧ W0.heap.size ≤ b ∧ Blk w' b cs t ∧ cs.size = 7 ∧ (l (6 + c) = true → cs = E)
  sts : ∀ c, c < 3 → l (6 + c) = true → l (3 + c) = true
  far : ∀ c d, c < 3 → d < 3 → c ≠ d → l (3 + c) = true → l (3 + d) = true → v (3 + c) ≠ v (3 + d)
theorem Cop.ext {w W0 : World} {E : Array Value} {t : TypeId} {l l' : Nat → Bool} {v : Nat → Value} {w' : World} (h : ∀ i, i < 9 → l i = l' i) (H : Cop w W0 E t l v w') : Cop w W0 E t l' v w' where
  low := H.low
  mid := H.mid
  lds c hc hl := H.lds c hc (by rw [h c (by omega)]; exact hl)
  als c hc hl := by
    obtain ⟨b, cs, h1, h2, h3, h4, h5⟩ := H.als c hc (by rw [h (3 + c) (by omega)]; exact hl)
    exact ⟨b, cs, h1, h2, h3, h4, fun h6 => h5 (by rw [h (6 + c) (by omega)]; exact h6)⟩
  sts c hc hl := by rw [← h (3 + c) (by omega)]; exact H.sts c hc (by rw [h (6 + c) (by omega)]; exact hl)
  far c d hc hd hn h1 h2 := H.far c d hc hd hn (by rw [h (3 + c) (by omega)]; exact h1) (by rw [h (3 + d) (by omega)]; exact h2)
theorem Cop.start {w W0 : World} {E : Array Value} {t : TypeId} {v : Nat → Value} {w' : World} (h1 : Below w.heap.size w w') (h2 : Below W0.heap.size W0 w') : Cop w W0 E t (fun _ => false) v w' where
  low := h1
  mid := h2
  lds c _ h := by cases h
  als c _ h := by cases h
  sts c _ h := by cases h
  far c d _ _ _ h := by cases h
theorem Cop.load {w W0 : World} {E : Array Value} {t : TypeId} {l : Nat → Bool} {v : Nat → Value} {w' : World} (i : Nat) (hi : i < 3) (H : Cop w W0 E t l v w') : Cop w W0 E t (doneL l i) (doneV v i (.agg E)) w' where
  low := H.low
  mid := H.mid
  lds c hc hl := by
    unfold doneV
    unfold doneL at hl
    split
    · rfl
    · rename_i hne; rw [if_neg hne] at hl; exact H.lds c hc hl
  als c hc hl := by
    unfold doneV
    unfold doneL at hl ⊢
    rw [if_neg (by omega)] at hl ⊢
    rw [if_neg (by omega)]
    exact H.als c hc hl
  sts c hc hl := by
    unfold doneL at hl ⊢
    rw [if_neg (by omega)] at hl ⊢
    exact H.sts c hc hl
  far c d hc hd hn h1 h2 := by
    unfold doneV
    unfold doneL at h1 h2
    rw [if_neg (by omega)] at h1 h2
    rw [if_neg (by omega), if_neg (by omega)]
    exact H.far c d hc hd hn h1 h2
theorem Cop.alloc {w W0 : World} {E Z : Array Value} {t : TypeId} {l : Nat → Bool} {v : Nat → Value} {w' : World} (hZ : Z.size = 7) (i : Nat) (hi : i < 3) (hl3 : l (3 + i) = false) (H : Cop w W0 E t l v w') :
    Cop w W0 E t (doneL l (3 + i)) (doneV v (3 + i) (.pointer (some ⟨w'.heap.size, 0, none⟩))) (w'.alloc (.cells Z t)) := by
  have h0 : W0.heap.size ≤ w'.heap.size := H.mid.size
  have h6 : l (6 + i) = false := by
    cases h : l (6 + i) with
    | false => rfl
    | true => rw [H.sts i hi h] at hl3; cases hl3
  have hne : ∀ c, c < 3 → c ≠ i → l (3 + c) = true → v (3 + c) ≠ .pointer (some ⟨w'.heap.size, 0, none⟩) := by
    intro c hc hci hl hv
    obtain ⟨b, cs, h1, h2, h3, h4, h5⟩ := H.als c hc hl
    have := h3.lt
    rw [h1] at hv
    injection hv with hv
    injection hv with hv
    injection hv with hv
    omega
  exact {
    low := ext_alloc H.low _
    mid := ext_alloc H.mid _
    lds := fun c hc hl => by
      unfold doneV
      unfold doneL at hl
      rw [if_neg (by omega)] at hl ⊢
      exact H.lds c hc hl
    als := fun c hc hl => by
      unfold doneV
      by_cases hci : c = i
      · subst hci
        rw [if_pos rfl]
        refine ⟨_, Z, rfl, h0, Blk.new _ _ _, hZ, fun h => ?_⟩
        unfold doneL at h
        rw [if_neg (by omega)] at h
        rw [h6] at h; cases h
      · unfold doneL at hl ⊢
        rw [if_neg (by omega)] at hl ⊢
        rw [if_neg (by omega)]
        obtain ⟨b, cs, h1, h2, h3, h4, h5⟩ := H.als c hc hl
        exact ⟨b, cs, h1, h2, h3.alloc _, h4, h5⟩
    sts := fun c hc hl => by
      unfold doneL at hl ⊢
      rw [if_neg (by omega)] at hl
      split
      · rfl
      · exact H.sts c hc hl
    far := fun c d hc hd hn h1 h2 => by
      unfold doneV
      unfold doneL at h1 h2
      by_cases hci : c = i
      · subst hci
        rw [if_neg (by omega)] at h2
        rw [if_pos rfl, if_neg (by omega)]
        exact fun h => hne d hd (fun e => hn e.symm) h2 h.symm
      · rw [if_neg (by omega)] at h1
        rw [if_neg (by omega)]
        by_cases hdi : d = i
        · subst hdi
          rw [if_pos rfl]
          exact hne c hc hn h1
        · rw [if_neg (by omega)] at h2 ⊢
          exact H.far c d hc hd hn h1 h2 }
theorem Cop.store {w W0 : World} {v0 v1 v2 v3 v4 v5 v6 x : Value} {t : TypeId} {l : Nat → Bool} {v : Nat → Value} {w' : World} (hW : w.heap.size ≤ W0.heap.size) (i b : Nat) (hi : i < 3) (hl3 : l (3 + i) = true) (hv : v (3 + i) = .pointer (some ⟨b, 0, none⟩)) (H : Cop w W0 #[v0, v1, v2, v3, v4, v5, v6] t l v w') :
    Cop w W0 #[v0, v1, v2, v3, v4, v5, v6] t (doneL l (6 + i)) (doneV v (6 + i) x) (((((((w'.setCell ⟨b, 0, none⟩ v0).setCell ⟨b, 1, none⟩ v1).setCell ⟨b, 2, none⟩ v2).setCell ⟨b, 3, none⟩ v3).setCell ⟨b, 4, none⟩ v4).setCell ⟨b, 5, none⟩ v5).setCell ⟨b, 6, none⟩ v6) := by
  obtain ⟨b', cs, h1, h2, h3, h4, -⟩ := H.als i hi hl3
  rw [hv] at h1
  injection h1 with h1
  injection h1 with h1
  injection h1 with h1
  subst h1
  exact {
    low := low7 H.low (by omega) _ _ _ _ _ _ _
    mid := low7 H.mid h2 _ _ _ _ _ _ _
    lds := fun c hc hl => by
      unfold doneV
      unfold doneL at hl
      rw [if_neg (by omega)] at hl ⊢
      exact H.lds c hc hl
    als := fun c hc hl => by
      unfold doneV
      unfold doneL at hl
      rw [if_neg (by omega)] at hl ⊢
      by_cases hci : c = i
      · subst hci
        obtain ⟨c0, c1, c2, c3, c4, c5, c6, rfl⟩ := arr7 h4
        exact ⟨b, _, hv, h2, set7 h3 _ _ _ _ _ _ _, rfl, fun _ => rfl⟩
      · obtain ⟨d, ds, g1, g2, g3, g4, g5⟩ := H.als c hc hl
        have hdb : d ≠ b := by
          rintro rfl
          exact H.far c i hc hi hci hl hl3 (g1.trans hv.symm)
        refine ⟨d, ds, g1, g2, far7 g3 hdb _ _ _ _ _ _ _, g4, fun h => g5 ?_⟩
        unfold doneL at h
        rw [if_neg (by omega)] at h
        exact h
    sts := fun c hc hl => by
      unfold doneL at hl ⊢
      rw [if_neg (by omega)]
      by_cases hci : c = i
      · subst hci; exact hl3
      · rw [if_neg (by omega)] at hl
        exact H.sts c hc hl
    far := fun c d hc hd hn g1 g2 => by
      unfold doneV
      unfold doneL at g1 g2
      rw [if_neg (by omega)] at g1 g2
      rw [if_neg (by omega), if_neg (by omega)]
      exact H.far c d hc hd hn g1 g2 }
/-- What EventJust asks of the parts. -/
theorem just_far {e : Ev} {T V S t' : Int} (h : T ≤ t') : mayE { e with th := t' } T V S = false := by
  unfold mayE
  simp only [Bool.and_eq_false_iff, decide_eq_false_iff_not]
  left; right
  rintro ⟨-, -, -, -, h5, -⟩
  omega
theorem just_tx {e : Ev} {T V S n : Int} (hm : mayE e T V S = true) (h1 : 1 ≤ n) (h2 : n ≤ 5) : mayE { e with tx := n } T V S = decide (e.kind = 1) := by
  obtain ⟨kind, th, tx, at_, v, x, why⟩ := e
  unfold mayE at hm ⊢
  simp only [Bool.and_eq_true, decide_eq_true_eq] at hm
  obtain ⟨⟨hs, hb⟩, hc⟩ := hm
  rw [hs, Bool.true_and]
  by_cases hk : kind = 1
  · subst hk
    rw [decide_eq_true (show (1 : Int) = 1 from rfl), Bool.and_eq_true, decide_eq_true_eq, decide_eq_true_eq]
    unfold bareE placesE leastV at *
    simp at *
    omega
  · rw [decide_eq_false hk, Bool.and_eq_false_iff]
    right
    rw [decide_eq_false_iff_not]
    unfold bareE
    dsimp only
    simp only [if_neg hk]
    repeat' split
    all_goals (dsimp only; omega)
theorem just_x {e : Ev} {T V S n : Int} (hm : mayE e T V S = true) (h1 : 1 ≤ n) : mayE { e with x := n } T V S = decide (e.kind = 3 ∨ e.kind = 8) := by
  obtain ⟨kind, th, tx, at_, v, x, why⟩ := e
  unfold mayE at hm ⊢
  simp only [Bool.and_eq_true, decide_eq_true_eq] at hm
  obtain ⟨⟨hs, hb⟩, hc⟩ := hm
  rw [hs, Bool.true_and]
  by_cases hk : kind = 3 ∨ kind = 8
  · rw [decide_eq_true hk, Bool.and_eq_true, decide_eq_true_eq, decide_eq_true_eq]
    rcases hk with rfl | rfl <;> unfold bareE placesE leastV at * <;> simp at * <;> omega
  · rw [decide_eq_false hk, Bool.and_eq_false_iff]
    right
    rw [decide_eq_false_iff_not]
    unfold bareE
    dsimp only
    repeat' split
    all_goals (dsimp only; omega)
theorem just_why {e : Ev} {T V S n : Int} (hm : mayE e T V S = true) (h1 : 1 ≤ n) (h2 : n ≤ 5) : mayE { e with why := n } T V S = decide (e.kind = 10) := by
  obtain ⟨kind, th, tx, at_, v, x, why⟩ := e
  unfold mayE at hm ⊢
  simp only [Bool.and_eq_true, decide_eq_true_eq] at hm
  obtain ⟨⟨hs, hb⟩, hc⟩ := hm
  rw [hs, Bool.true_and]
  by_cases hk : kind = 10
  · subst hk
    rw [decide_eq_true (show (10 : Int) = 10 from rfl), Bool.and_eq_true, decide_eq_true_eq, decide_eq_true_eq]
    unfold sizesB at hs
    rw [decide_eq_true_eq] at hs
    have hn : ¬ n = 6 := by omega
    have hp : placesE ⟨10, th, tx, at_, v, x, why⟩ V S ≤ placesE ⟨10, th, tx, at_, v, x, n⟩ V S := by
      unfold placesE
      simp [hn]
      split <;> omega
    unfold bareE leastV at *
    simp at *
    omega
  · rw [decide_eq_false hk, Bool.and_eq_false_iff]
    right
    rw [decide_eq_false_iff_not]
    unfold bareE
    dsimp only
    simp only [if_neg hk]
    repeat' split
    all_goals (dsimp only; omega)
theorem just_stripe {e : Ev} {T V S : Int} (hm : mayE e T V S = true) (h : (stripeP e S).2 = true) : 0 ≤ (stripeP e S).1 ∧ (stripeP e S).1 < S := by
  obtain ⟨kind, th, tx, at_, v, x, why⟩ := e
  unfold mayE at hm
  simp only [Bool.and_eq_true, decide_eq_true_eq] at hm
  obtain ⟨⟨hs, hb⟩, hc⟩ := hm
  unfold sizesB at hs
  rw [decide_eq_true_eq] at hs
  unfold stripeP at h ⊢
  dsimp only at *
  split at h
  · cases h
  · rename_i hh
    rw [if_neg hh]
    split at h
    · rename_i hk
      rw [if_pos hk]
      dsimp only
      rw [Int.tmod_eq_emod_of_nonneg (by omega)]
      exact ⟨Int.emod_nonneg _ (by omega), Int.emod_lt_of_pos _ (by omega)⟩
    · rename_i hk
      rw [if_neg hk]
      split at h
      · rename_i hj
        rw [if_pos hj]
        dsimp only
        unfold placesE at hb
        dsimp only at hb
        rw [if_neg hk] at hb
        have : ¬ (kind = 10 ∧ why = 6) := by
          rintro ⟨rfl, rfl⟩
          rcases hj with hj | hj
          · revert hj; decide
          · exact hj.2 rfl
        rw [if_neg this] at hb
        omega
      · cases h
end Go.Proofs.YtlbpollckiidlaaDoor
