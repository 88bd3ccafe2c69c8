/-
  Setups as data, and as they lie in memory.
-/
import Derived.Test.YtaklfjjkeebheaaCoE
namespace Go.Proofs.Ytaklfjjkeebheaa
set_option linter.unusedVariables false
set_option linter.unusedSimpArgs false
set_option linter.unusedVariables false
open Go Go.RowKit
/-- Rows of slices: an element a cell. -/
def RdRow {α : Type} (R : World → α → Value → Prop) (w : World) (q off : Nat) : List α → Prop
  | [] => True
  | x :: xs => (∃ v, w.cell? ⟨q, off, none⟩ = some v ∧ R w x v) ∧ RdRow R w q (off + 1) xs
def RdSl {α : Type} (R : World → α → Value → Prop) (w : World) (l : List α) (v : Value) : Prop := ∃ p cap, v = .slice p l.length cap ∧ l.length ≤ 9223372036854775807 ∧ (l ≠ [] → ∃ q off, p = some ⟨q, off, none⟩ ∧ RdRow R w q off l)
theorem RdRow.get {α : Type} {R : World → α → Value → Prop} {w : World} : ∀ (l : List α) {q off}, RdRow R w q off l → ∀ k (h : k < l.length), ∃ v, w.cell? ⟨q, off + k, none⟩ = some v ∧ R w l[k] v
  | x :: xs, q, off, h, 0, _ => by unfold RdRow at h; exact h.1
  | x :: xs, q, off, h, k + 1, hk => by
    unfold RdRow at h
    have := RdRow.get xs h.2 k (by simpa using hk)
    rw [show off + (k + 1) = off + 1 + k by omega]
    exact this
theorem RdRow.below {α : Type} {R : World → α → Value → Prop} (hR : ∀ (w w' : World) (x : α) (v : Value), Below w.heap.size w w' → R w x v → R w' x v) {w w' : World} (hb : Below w.heap.size w w') : ∀ (l : List α) {q off}, RdRow R w q off l → RdRow R w' q off l
  | [], _, _, _ => trivial
  | x :: xs, q, off, h => by
    unfold RdRow at h ⊢
    obtain ⟨⟨v, h1, h2⟩, h3⟩ := h
    exact ⟨⟨v, later hb h1, hR _ _ _ _ hb h2⟩, RdRow.below hR hb xs h3⟩
theorem RdSl.below {α : Type} {R : World → α → Value → Prop} (hR : ∀ (w w' : World) (x : α) (v : Value), Below w.heap.size w w' → R w x v → R w' x v) {w w' : World} (hb : Below w.heap.size w w') {l : List α} {v : Value} (h : RdSl R w l v) : RdSl R w' l v := by
  obtain ⟨p, cap, h1, h2, h3⟩ := h
  exact ⟨p, cap, h1, h2, fun hne => by obtain ⟨q, off, h4, h5⟩ := h3 hne; exact ⟨q, off, h4, RdRow.below hR hb l h5⟩⟩
/-- A thread: a row of transactions; threads: a row of those. -/
def RdTh (w : World) (l : List (List St)) (v : Value) : Prop := RdSl RdTx w l v
def RdThs (w : World) (l : List (List (List St))) (v : Value) : Prop := RdSl RdTh w l v
theorem RdTh.below {w w' : World} {l : List (List St)} {v : Value} (hb : Below w.heap.size w w') (h : RdTh w l v) : RdTh w' l v := RdSl.below (R := RdTx) (fun _ _ _ _ hb h => h.below hb) hb h
theorem RdThs.below {w w' : World} {l : List (List (List St))} {v : Value} (hb : Below w.heap.size w w') (h : RdThs w l v) : RdThs w' l v := RdSl.below (R := RdTh) (fun _ _ _ _ hb h => RdTh.below hb h) hb h
def okTx (t : List St) : Prop := sizeT t ≤ 1000000 ∧ ∀ s ∈ flatT t, okE s
def okTh (l : List (List St)) : Prop := l.length ≤ 20 ∧ ∀ t ∈ l, okTx t
theorem all_take_succ {α : Type} {P : α → Prop} {l : List α} {k : Nat} (hk : k < l.length) (h : ∀ x ∈ l.take k, P x) (hx : P l[k]) : ∀ x ∈ l.take (k + 1), P x := by
  intro x hm
  rw [List.take_succ_eq_append_getElem hk, List.mem_append, List.mem_singleton] at hm
  rcases hm with hm | rfl
  · exact h x hm
  · exact hx
end Go.Proofs.Ytaklfjjkeebheaa
