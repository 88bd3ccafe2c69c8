/-
  Rows of rows of statements that are written into: what shape they keep, whatever is written.
-/
import Derived.Test.YtoeegiaajngpeaaSuA1
namespace Go.Proofs.Ytoeegiaajngpeaa
set_option linter.unusedVariables false
set_option linter.unusedSimpArgs false
set_option linter.unusedVariables false
open Go Go.RowKit
def TxOk (lo : Nat) (w : World) (x : Value) : Prop := ∃ p m c, x = .slice p m c ∧ m ≤ 1000000 ∧ (0 < m → ∃ g cells, p = some ⟨g, 0, none⟩ ∧ lo ≤ g ∧ Blk w g cells 42 ∧ m * 10 ≤ cells.size)
def ThOk (lo : Nat) (w : World) (x : Value) : Prop := ∃ p m c, x = .slice p m c ∧ m ≤ 1000000 ∧ (0 < m → ∃ g cells, p = some ⟨g, 0, none⟩ ∧ lo ≤ g ∧ Blk w g cells 37 ∧ ∀ k, k < m → ∃ y, cells[k]? = some y ∧ TxOk lo w y)
/-- All of it. -/
structure ThsOk (lo : Nat) (w : World) (bc : Nat) (box : Array Value) (n g0 : Nat) (cells0 : Array Value) : Prop where
  box : Blk w bc box 25
  row : 0 < n → Blk w g0 cells0 32
  each : ∀ i, i < n → ∃ x, cells0[i]? = some x ∧ ThOk lo w x
theorem blk_ne {w : World} {g g' : Nat} {cs cs' : Array Value} {t t' : TypeId} (h : Blk w g cs t) (h' : Blk w g' cs' t') (ht : t ≠ t') : g ≠ g' := by
  rintro rfl
  have h1 : w.heap[g]? = some (.cells cs t (0, 0)) := h
  have h2 : w.heap[g]? = some (.cells cs' t' (0, 0)) := h'
  rw [h1] at h2
  cases h2
  exact ht rfl
/-- A cell of a row of statements, or of numbers, is written. -/
theorem TxOk.set {lo : Nat} {w : World} {x : Value} (h : TxOk lo w x) {g o : Nat} {cs : Array Value} {t : TypeId} {v : Value} (hb : Blk w g cs t) : TxOk lo (w.setCell ⟨g, o, none⟩ v) x := by
  obtain ⟨p, m, c, rfl, hm, hx⟩ := h
  refine ⟨p, m, c, rfl, hm, fun h0 => ?_⟩
  obtain ⟨g2, cells, h1, h2, h3, h4⟩ := hx h0
  by_cases he : g2 = g
  · subst he
    exact ⟨g2, _, h1, h2, h3.set o v, by simpa using h4⟩
  · exact ⟨g2, cells, h1, h2, h3.set_other _ _ (by dsimp only; omega), h4⟩
theorem ThOk.set {lo : Nat} {w : World} {x : Value} (h : ThOk lo w x) {g o : Nat} {cs : Array Value} {t : TypeId} {v : Value} (hb : Blk w g cs t) (ht : t ≠ 37 ∨ v = .slice none 0 0) : ThOk lo (w.setCell ⟨g, o, none⟩ v) x := by
  obtain ⟨p, m, c, rfl, hm, hx⟩ := h
  refine ⟨p, m, c, rfl, hm, fun h0 => ?_⟩
  obtain ⟨g2, cells, h1, h2, h3, h4⟩ := hx h0
  by_cases he : g2 = g
  · subst he
    rcases ht with ht | rfl
    · exact absurd rfl (blk_ne h3 hb (fun e => ht e.symm))
    · refine ⟨g2, _, h1, h2, h3.set o _, fun k hk => ?_⟩
      obtain ⟨y, h5, h6⟩ := h4 k hk
      by_cases hko : o = k
      · subst hko
        exact ⟨.slice none 0 0, Array.getElem?_setIfInBounds_self_of_lt (Array.getElem?_eq_some_iff.1 h5).1, none, 0, 0, rfl, by omega, fun h => by omega⟩
      · exact ⟨y, by rw [Array.getElem?_setIfInBounds_ne hko]; exact h5, h6.set hb⟩
  · refine ⟨g2, cells, h1, h2, h3.set_other _ _ (by dsimp only; omega), fun k hk => ?_⟩
    obtain ⟨y, h5, h6⟩ := h4 k hk
    exact ⟨y, h5, h6.set hb⟩
theorem ThsOk.set {lo : Nat} {w : World} {bc n g0 : Nat} {box cells0 : Array Value} (h : ThsOk lo w bc box n g0 cells0) {g o : Nat} {cs : Array Value} {t : TypeId} {v : Value} (hb : Blk w g cs t)
    (h1 : t ≠ 25) (h2 : t ≠ 32) (ht : t ≠ 37 ∨ v = .slice none 0 0) : ThsOk lo (w.setCell ⟨g, o, none⟩ v) bc box n g0 cells0 :=
  ⟨h.box.set_other _ _ (blk_ne h.box hb h1.symm), fun hn => (h.row hn).set_other _ _ (blk_ne (h.row hn) hb h2.symm), fun i hi => by
    obtain ⟨x, h3, h4⟩ := h.each i hi
    exact ⟨x, h3, h4.set hb ht⟩⟩
theorem TxOk.below {lo : Nat} {w w' : World} {x : Value} (h : TxOk lo w x) (hb : Below w.heap.size w w') : TxOk lo w' x := by
  obtain ⟨p, m, c, rfl, hm, hx⟩ := h
  refine ⟨p, m, c, rfl, hm, fun h0 => ?_⟩
  obtain ⟨g2, cells, h1, h2, h3, h4⟩ := hx h0
  exact ⟨g2, cells, h1, h2, h3.below hb, h4⟩
theorem ThOk.below {lo : Nat} {w w' : World} {x : Value} (h : ThOk lo w x) (hb : Below w.heap.size w w') : ThOk lo w' x := by
  obtain ⟨p, m, c, rfl, hm, hx⟩ := h
  refine ⟨p, m, c, rfl, hm, fun h0 => ?_⟩
  obtain ⟨g2, cells, h1, h2, h3, h4⟩ := hx h0
  exact ⟨g2, cells, h1, h2, h3.below hb, fun k hk => by obtain ⟨y, h5, h6⟩ := h4 k hk; exact ⟨y, h5, h6.below hb⟩⟩
theorem ThsOk.below {lo : Nat} {w w' : World} {bc n g0 : Nat} {box cells0 : Array Value} (h : ThsOk lo w bc box n g0 cells0) (hb : Below w.heap.size w w') : ThsOk lo w' bc box n g0 cells0 :=
  ⟨h.box.below hb, fun hn => (h.row hn).below hb, fun i hi => by obtain ⟨x, h1, h2⟩ := h.each i hi; exact ⟨x, h1, h2.below hb⟩⟩
theorem txOk_of {lo : Nat} {l : List St} {w : World} {v : Value} (h : RdTxO lo l w v) (hl : sizeT l ≤ 3000) : TxOk lo w v := by
  obtain ⟨⟨p, c, rfl, -, -⟩, h2⟩ := h
  have hll := sizeT_length l
  refine ⟨p, l.length, c, rfl, by omega, fun h0 => ?_⟩
  obtain ⟨g, cap, cells, h3, h4, h5, h6⟩ := h2 (by intro h; subst h; simp at h0)
  cases h3
  exact ⟨g, cells, rfl, h4, h5, h6⟩
theorem thOk_of {lo : Nat} {th : List (List St)} {w : World} {v : Value} (h : RdThO lo w th v) (hok : okTh th) : ThOk lo w v := by
  obtain ⟨⟨-, p, c, rfl, -⟩, h2⟩ := h
  refine ⟨p, th.length, c, rfl, by have := hok.1; omega, fun h0 => ?_⟩
  obtain ⟨g, cap, cells, h3, h4, h5, h6⟩ := h2 (by intro h; subst h; simp at h0)
  cases h3
  exact ⟨g, cells, rfl, h4, h5, fun k hk => by
    obtain ⟨y, h7, h8⟩ := h6 k hk
    exact ⟨y, h7, txOk_of h8 (hok.2 _ (List.getElem_mem hk)).1⟩⟩
theorem ths_cells {lo hi B : Nat} {is : List Int} {ths : List (List (List St))} {vi v : Value} {w : World} (h : CpAt lo hi B is ths vi v w) (hok : ∀ th ∈ ths, okTh th) : ∃ g0 cells0,
    (0 < ths.length → (∃ c, v = .slice (some ⟨g0, 0, none⟩) ths.length c) ∧ lo ≤ g0 ∧ g0 < hi ∧ Blk w g0 cells0 32) ∧ ∀ i, i < ths.length → ∃ x, cells0[i]? = some x ∧ ThOk lo w x := by
  obtain ⟨news, hrow, hown⟩ := h.row
  by_cases hn : 0 < ths.length
  · obtain ⟨g, c, cur, rfl, h1, h2, h3, h4, h5, h6⟩ := owns_at hrow.1 hn
    refine ⟨g, cur, fun _ => ⟨⟨c, rfl⟩, Nat.le_trans h.hi.2.1 h1, (hown g rfl).2, h3⟩, fun i hi => ?_⟩
    obtain ⟨cs, lo', hi', e1, e2, e3, e4, e5, e6⟩ := hrow.2.2 i hi hi
    obtain ⟨x, rfl, hx⟩ := e6 w (Agree.refl _ _ _)
    exact ⟨x, h6 i x (by simpa using e2 0 x rfl), thOk_of hx (hok _ (List.getElem_mem hi))⟩
  · exact ⟨0, #[], fun h => absurd h hn, fun i hi => by omega⟩
end Go.Proofs.Ytoeegiaajngpeaa
