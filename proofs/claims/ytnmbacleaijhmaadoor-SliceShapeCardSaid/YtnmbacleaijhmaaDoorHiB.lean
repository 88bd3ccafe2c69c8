/-
  Two boxes of nine cells, laid and filled in any order among reads: what holds all along. Any program.
-/
import Derived.Test.YtnmbacleaijhmaaDoorSgB
import Derived.Test.YtnmbacleaijhmaaDoorTurn
namespace Go.Proofs.YtnmbacleaijhmaaDoor
set_option linter.unusedVariables false
set_option linter.unusedSimpArgs false
open Go Go.RowKit
def nine (w : World) (b : Nat) (v0 v1 v2 v3 v4 v5 v6 v7 v8 : Value) : World := ((((((((w.setCell ⟨b, 0, none⟩ v0).setCell ⟨b, 1, none⟩ v1).setCell ⟨b, 2, none⟩ v2).setCell ⟨b, 3, none⟩ v3).setCell ⟨b, 4, none⟩ v4).setCell ⟨b, 5, none⟩ v5).setCell ⟨b, 6, none⟩ v6).setCell ⟨b, 7, none⟩ v7).setCell ⟨b, 8, none⟩ v8
theorem set9 {w : World} {b : Nat} {c0 c1 c2 c3 c4 c5 c6 c7 c8 : Value} {t : TypeId} (h : Blk w b #[c0, c1, c2, c3, c4, c5, c6, c7, c8] t) (v0 v1 v2 v3 v4 v5 v6 v7 v8 : Value) : Blk (nine w b v0 v1 v2 v3 v4 v5 v6 v7 v8) b #[v0, v1, v2, v3, v4, v5, v6, v7, v8] t := by
  have := ((((((((h.set 0 v0).set 1 v1).set 2 v2).set 3 v3).set 4 v4).set 5 v5).set 6 v6).set 7 v7).set 8 v8
  simpa [nine] using this
theorem far9 {w : World} {b d : Nat} {cs : Array Value} {t : TypeId} (h : Blk w d cs t) (hne : d ≠ b) (v0 v1 v2 v3 v4 v5 v6 v7 v8 : Value) : Blk (nine w b v0 v1 v2 v3 v4 v5 v6 v7 v8) d cs t :=
  ((((((((h.set_other ⟨b, 0, none⟩ v0 hne).set_other ⟨b, 1, none⟩ v1 hne).set_other ⟨b, 2, none⟩ v2 hne).set_other ⟨b, 3, none⟩ v3 hne).set_other ⟨b, 4, none⟩ v4 hne).set_other ⟨b, 5, none⟩ v5 hne).set_other ⟨b, 6, none⟩ v6 hne).set_other ⟨b, 7, none⟩ v7 hne).set_other ⟨b, 8, none⟩ v8 hne
theorem low9 {a w : World} {B b : Nat} (h : Below B a w) (hb : B ≤ b) (v0 v1 v2 v3 v4 v5 v6 v7 v8 : Value) : Below B a (nine w b v0 v1 v2 v3 v4 v5 v6 v7 v8) :=
  ((((((((h.setCell (p := ⟨b, 0, none⟩) hb v0).setCell (p := ⟨b, 1, none⟩) hb v1).setCell (p := ⟨b, 2, none⟩) hb v2).setCell (p := ⟨b, 3, none⟩) hb v3).setCell (p := ⟨b, 4, none⟩) hb v4).setCell (p := ⟨b, 5, none⟩) hb v5).setCell (p := ⟨b, 6, none⟩) hb v6).setCell (p := ⟨b, 7, none⟩) hb v7).setCell (p := ⟨b, 8, none⟩) hb v8
theorem arr9 {cs : Array Value} (h : cs.size = 9) : ∃ c0 c1 c2 c3 c4 c5 c6 c7 c8, cs = #[c0, c1, c2, c3, c4, c5, c6, c7, c8] := by
  obtain ⟨l⟩ := cs
  match l, h with
  | [a, b, c, d, e, f, g, i, j], _ => exact ⟨a, b, c, d, e, f, g, i, j, rfl⟩
/-- n operations that yield what is known; two allocs; two stores. -/
structure Bx (W0 : World) (n : Nat) (K : Nat → Value) (E : Nat → Array Value) (t : TypeId) (l : Nat → Bool) (v : Nat → Value) (w' : World) : Prop where
  mid : Below W0.heap.size W0 w'
  knw : ∀ i, i < n → l i = true → v i = K i
  als : ∀ c, c < 2 → l (n + c) = true → ∃ b cs, v (n + c) = .pointer (some ⟨b, 0, none⟩) ∧ W0.heap.size ≤ b ∧ Blk w' b cs t ∧ cs.size = 9 ∧ (l (n + 2 + c) = true → cs = E c)
  sts : ∀ c, c < 2 → l (n + 2 + c) = true → l (n + c) = true
  far : ∀ c d, c < 2 → d < 2 → c ≠ d → l (n + c) = true → l (n + d) = true → v (n + c) ≠ v (n + d)
theorem Bx.ext {W0 : World} {n : Nat} {K : Nat → Value} {E : Nat → Array Value} {t : TypeId} {l l' : Nat → Bool} {v : Nat → Value} {w' : World} (h : ∀ i, i < n + 4 → l i = l' i) (H : Bx W0 n K E t l v w') : Bx W0 n K E t l' v w' where
  mid := H.mid
  knw c hc hl := H.knw c hc (by rw [h c (by omega)]; exact hl)
  als c hc hl := by
    obtain ⟨b, cs, h1, h2, h3, h4, h5⟩ := H.als c hc (by rw [h (n + c) (by omega)]; exact hl)
    exact ⟨b, cs, h1, h2, h3, h4, fun h6 => h5 (by rw [h (n + 2 + c) (by omega)]; exact h6)⟩
  sts c hc hl := by rw [← h (n + c) (by omega)]; exact H.sts c hc (by rw [h (n + 2 + c) (by omega)]; exact hl)
  far c d hc hd hn h1 h2 := H.far c d hc hd hn (by rw [h (n + c) (by omega)]; exact h1) (by rw [h (n + d) (by omega)]; exact h2)
theorem Bx.start {W0 : World} {n : Nat} {K : Nat → Value} {E : Nat → Array Value} {t : TypeId} {v : Nat → Value} {w' : World} (h2 : Below W0.heap.size W0 w') : Bx W0 n K E t (fun _ => false) v w' where
  mid := h2
  knw c _ h := by cases h
  als c _ h := by cases h
  sts c _ h := by cases h
  far c d _ _ _ h := by cases h
theorem Bx.get {W0 : World} {n : Nat} {K : Nat → Value} {E : Nat → Array Value} {t : TypeId} {l : Nat → Bool} {v : Nat → Value} {w' : World} (i : Nat) (hi : i < n) (H : Bx W0 n K E t l v w') : Bx W0 n K E t (doneL l i) (doneV v i (K i)) w' where
  mid := H.mid
  knw c hc hl := by
    unfold doneV
    unfold doneL at hl
    split
    · rename_i he; rw [he]
    · rename_i hne; rw [if_neg hne] at hl; exact H.knw c hc hl
  als c hc hl := by
    unfold doneV
    unfold doneL at hl ⊢
    rw [if_neg (by omega)] at hl ⊢
    rw [if_neg (by omega)]
    exact H.als c hc hl
  sts c hc hl := by
    unfold doneL at hl ⊢
    rw [if_neg (by omega)] at hl ⊢
    exact H.sts c hc hl
  far c d hc hd hn h1 h2 := by
    unfold doneV
    unfold doneL at h1 h2
    rw [if_neg (by omega)] at h1 h2
    rw [if_neg (by omega), if_neg (by omega)]
    exact H.far c d hc hd hn h1 h2
theorem Bx.alloc {W0 : World} {n : Nat} {K : Nat → Value} {E : Nat → Array Value} {Z : Array Value} {t : TypeId} {l : Nat → Bool} {v : Nat → Value} {w' : World} (hZ : Z.size = 9) (i : Nat) (hi : i < 2) (hl3 : l (n + i) = false) (H : Bx W0 n K E t l v w') :
    Bx W0 n K E t (doneL l (n + i)) (doneV v (n + i) (.pointer (some ⟨w'.heap.size, 0, none⟩))) (w'.alloc (.cells Z t)) := by
  have h0 : W0.heap.size ≤ w'.heap.size := H.mid.size
  have h6 : l (n + 2 + i) = false := by
    cases h : l (n + 2 + i) with
    | false => rfl
    | true => rw [H.sts i hi h] at hl3; cases hl3
  have hne : ∀ c, c < 2 → c ≠ i → l (n + c) = true → v (n + c) ≠ .pointer (some ⟨w'.heap.size, 0, none⟩) := by
    intro c hc hci hl hv
    obtain ⟨b, cs, h1, h2, h3, h4, h5⟩ := H.als c hc hl
    have := h3.lt
    rw [h1] at hv
    injection hv with hv
    injection hv with hv
    injection hv with hv
    omega
  exact {
    mid := ext_alloc H.mid _
    knw := fun c hc hl => by
      unfold doneV
      unfold doneL at hl
      rw [if_neg (by omega)] at hl ⊢
      exact H.knw c hc hl
    als := fun c hc hl => by
      unfold doneV
      by_cases hci : c = i
      · subst hci
        rw [if_pos rfl]
        refine ⟨_, Z, rfl, h0, Blk.new _ _ _, hZ, fun h => ?_⟩
        unfold doneL at h
        rw [if_neg (by omega)] at h
        rw [h6] at h; cases h
      · unfold doneL at hl ⊢
        rw [if_neg (by omega)] at hl ⊢
        rw [if_neg (by omega)]
        obtain ⟨b, cs, h1, h2, h3, h4, h5⟩ := H.als c hc hl
        exact ⟨b, cs, h1, h2, h3.alloc _, h4, h5⟩
    sts := fun c hc hl => by
      unfold doneL at hl ⊢
      rw [if_neg (by omega)] at hl
      split
      · rfl
      · exact H.sts c hc hl
    far := fun c d hc hd hn h1 h2 => by
      unfold doneV
      unfold doneL at h1 h2
      by_cases hci : c = i
      · subst hci
        rw [if_neg (by omega)] at h2
        rw [if_pos rfl, if_neg (by omega)]
        exact fun h => hne d hd (fun e => hn e.symm) h2 h.symm
      · rw [if_neg (by omega)] at h1
        rw [if_neg (by omega)]
        by_cases hdi : d = i
        · subst hdi
          rw [if_pos rfl]
          exact hne c hc hn h1
        · rw [if_neg (by omega)] at h2 ⊢
          exact H.far c d hc hd hn h1 h2 }
theorem Bx.store {W0 : World} {n : Nat} {K : Nat → Value} {E : Nat → Array Value} {v0 v1 v2 v3 v4 v5 v6 v7 v8 x : Value} {t : TypeId} {l : Nat → Bool} {v : Nat → Value} {w' : World} (i b : Nat) (hi : i < 2) (hE : E i = #[v0, v1, v2, v3, v4, v5, v6, v7, v8]) (hl3 : l (n + i) = true) (hv : v (n + i) = .pointer (some ⟨b, 0, none⟩)) (H : Bx W0 n K E t l v w') :
    Bx W0 n K E t (doneL l (n + 2 + i)) (doneV v (n + 2 + i) x) (nine w' b v0 v1 v2 v3 v4 v5 v6 v7 v8) := by
  obtain ⟨b', cs, h1, h2, h3, h4, -⟩ := H.als i hi hl3
  rw [hv] at h1
  injection h1 with h1
  injection h1 with h1
  injection h1 with h1
  subst h1
  exact {
    mid := low9 H.mid h2 _ _ _ _ _ _ _ _ _
    knw := fun c hc hl => by
      unfold doneV
      unfold doneL at hl
      rw [if_neg (by omega)] at hl ⊢
      exact H.knw c hc hl
    als := fun c hc hl => by
      unfold doneV
      unfold doneL at hl
      rw [if_neg (by omega)] at hl ⊢
      by_cases hci : c = i
      · subst hci
        obtain ⟨c0, c1, c2, c3, c4, c5, c6, c7, c8, rfl⟩ := arr9 h4
        exact ⟨b, _, hv, h2, set9 h3 _ _ _ _ _ _ _ _ _, rfl, fun _ => hE.symm⟩
      · obtain ⟨d, ds, g1, g2, g3, g4, g5⟩ := H.als c hc hl
        have hdb : d ≠ b := by
          rintro rfl
          exact H.far c i hc hi hci hl hl3 (g1.trans hv.symm)
        refine ⟨d, ds, g1, g2, far9 g3 hdb _ _ _ _ _ _ _ _ _, g4, fun h => g5 ?_⟩
        unfold doneL at h
        rw [if_neg (by omega)] at h
        exact h
    sts := fun c hc hl => by
      unfold doneL at hl ⊢
      rw [if_neg (by omega)]
      by_cases hci : c = i
      · subst hci; exact hl3
      · rw [if_neg (by omega)] at hl
        exact H.sts c hc hl
    far := fun c d hc hd hn g1 g2 => by
      unfold doneV
      unfold doneL at g1 g2
      rw [if_neg (by omega)] at g1 g2
      rw [if_neg (by omega), if_neg (by omega)]
      exact H.far c d hc hd hn g1 g2 }
end Go.Proofs.YtnmbacleaijhmaaDoor
