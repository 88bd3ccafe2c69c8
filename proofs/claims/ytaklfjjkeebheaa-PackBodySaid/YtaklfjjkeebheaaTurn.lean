/-
  Worlds in which some blocks alone have turned; rows of cells as lists of lists. Said of any program. Nothing of the program.
-/
import Derived.Test.YtaklfjjkeebheaaKit
namespace Go.Proofs.Ytaklfjjkeebheaa
set_option linter.unusedVariables false
open Go Go.RowKit

/-- From w to w' nothing has turned but the blocks of the list, and new ones. -/
structure Turn (l : List Nat) (w w' : World) : Prop where
  os : w'.os = w.os
  tape : w'.tape = w.tape
  output : w'.output = w.output
  size : w.heap.size ≤ w'.heap.size
  block : ∀ k, k < w.heap.size → k ∉ l → w'.heap[k]? = w.heap[k]?
theorem Turn.refl (l : List Nat) (w : World) : Turn l w w := ⟨rfl, rfl, rfl, Nat.le_refl _, fun _ _ _ => rfl⟩
theorem Turn.trans {l : List Nat} {a b c : World} (h : Turn l a b) (k : Turn l b c) : Turn l a c :=
  ⟨k.os.trans h.os, k.tape.trans h.tape, k.output.trans h.output, Nat.le_trans h.size k.size, fun i hi hn => (k.block i (Nat.lt_of_lt_of_le hi h.size) hn).trans (h.block i hi hn)⟩
theorem Turn.mono {l m : List Nat} {a b : World} (h : Turn l a b) (hs : ∀ x ∈ l, x ∈ m) : Turn m a b := ⟨h.os, h.tape, h.output, h.size, fun i hi hn => h.block i hi fun hm => hn (hs i hm)⟩
theorem Turn.of_below {l : List Nat} {a b : World} (h : Below a.heap.size a b) : Turn l a b := ⟨h.os, h.tape, h.output, h.size, fun i hi _ => h.block i hi⟩
theorem Turn.drew {l : List Nat} {a b : World} (h : Turn l a b) : Turn l a b.drew := ⟨h.os, h.tape, h.output, h.size, h.block⟩
theorem Turn.drewN {l : List Nat} {a b : World} (h : Turn l a b) (n : Nat) : Turn l a (b.drewN n) := h.trans (Turn.of_below (ext_drewN (ext_refl _) n))
theorem Turn.alloc {l : List Nat} {a b : World} (h : Turn l a b) (o : Obj) : Turn l a (b.alloc o) := h.trans (Turn.of_below (ext_alloc (ext_refl _) o))
theorem Turn.setCell {l : List Nat} {a b : World} (h : Turn l a b) {p : Addr} (hp : p.block ∈ l ∨ a.heap.size ≤ p.block) (u : Value) : Turn l a (b.setCell p u) :=
  ⟨h.os, h.tape, h.output, Nat.le_trans h.size (by simp [World.setCell]), fun i hi hn => by
    rw [Below.heap_setCell _ _ _ _ (by rintro rfl; rcases hp with hp | hp; exact hn hp; omega)]
    exact h.block i hi hn⟩
theorem Turn.below {l : List Nat} {a b : World} (h : Turn l a b) {B : Nat} (hl : ∀ x ∈ l, B ≤ x) (hB : B ≤ a.heap.size) : Below B a b :=
  ⟨h.os, h.tape, h.output, h.size, fun k hk => h.block k (by omega) fun hm => by have := hl k hm; omega⟩
theorem Turn.nil {a b : World} (h : Turn [] a b) : Below a.heap.size a b := h.below (by simp) (Nat.le_refl _)
theorem Turn.cell {l : List Nat} {a b : World} (h : Turn l a b) {k o : Nat} {v : Value} (hn : k ∉ l) (hc : a.cell? ⟨k, o, none⟩ = some v) : b.cell? ⟨k, o, none⟩ = some v := by
  rw [World.cell?_of_block (w := a) (h.block k (lt_of_cell hc) hn)]; exact hc
theorem Turn.blk {l : List Nat} {a b : World} (h : Turn l a b) {k : Nat} {cs : Array Value} {t : TypeId} (hn : k ∉ l) (hc : Blk a k cs t) : Blk b k cs t := by
  unfold Blk; rw [h.block k hc.lt hn]; exact hc

/-- Rows of m cells each, one behind the other. -/
def flatA (rows : List (List Value)) : Array Value := rows.flatten.toArray
theorem flat_get {m : Nat} : ∀ {rows : List (List Value)}, (∀ r ∈ rows, r.length = m) → ∀ (i k : Nat) (hi : i < rows.length), k < m → rows.flatten[i * m + k]? = (rows[i])[k]?
  | [], _, i, k, hi, _ => by simp at hi
  | r :: rs, h, 0, k, hi, hk => by
    have hr := h r (by simp)
    simp only [List.flatten_cons, Nat.zero_mul, Nat.zero_add, List.getElem_cons_zero]
    rw [List.getElem?_append_left (by omega)]
  | r :: rs, h, i + 1, k, hi, hk => by
    have hr := h r (by simp)
    simp only [List.flatten_cons, List.getElem_cons_succ]
    rw [List.getElem?_append_right (by rw [hr, Nat.succ_mul]; omega), hr]
    have e : (i + 1) * m + k - m = i * m + k := by rw [Nat.succ_mul]; omega
    rw [e]
    exact flat_get (fun x hx => h x (by simp [hx])) i k (by simpa using hi) hk
theorem flat_set {m : Nat} : ∀ {rows : List (List Value)}, (∀ r ∈ rows, r.length = m) → ∀ (i k : Nat) (v : Value), i < rows.length → k < m → rows.flatten.set (i * m + k) v = (rows.modify i (fun r => r.set k v)).flatten
  | [], _, i, k, v, hi, _ => by simp at hi
  | r :: rs, h, 0, k, v, hi, hk => by
    have hr := h r (by simp)
    simp only [List.flatten_cons, Nat.zero_mul, Nat.zero_add, List.modify_zero_cons]
    rw [List.set_append_left _ _ (by omega)]
  | r :: rs, h, i + 1, k, v, hi, hk => by
    have hr := h r (by simp)
    simp only [List.flatten_cons, List.modify_succ_cons]
    rw [List.set_append_right _ _ (by rw [hr, Nat.succ_mul]; omega), hr]
    have e : (i + 1) * m + k - m = i * m + k := by rw [Nat.succ_mul]; omega
    rw [e, flat_set (fun x hx => h x (by simp [hx])) i k v (by simpa using hi) hk]
theorem flatA_get {m : Nat} {rows : List (List Value)} (h : ∀ r ∈ rows, r.length = m) (i k : Nat) (hi : i < rows.length) (hk : k < m) : (flatA rows)[i * m + k]? = (rows[i])[k]? := by
  unfold flatA; rw [List.getElem?_toArray]; exact flat_get h i k hi hk
theorem flatA_set {m : Nat} {rows : List (List Value)} (h : ∀ r ∈ rows, r.length = m) (i k : Nat) (v : Value) (hi : i < rows.length) (hk : k < m) : (flatA rows).setIfInBounds (i * m + k) v = flatA (rows.modify i (fun r => r.set k v)) := by
  unfold flatA; rw [List.setIfInBounds_toArray, flat_set h i k v hi hk]
theorem modify_len {m : Nat} {rows : List (List Value)} (h : ∀ r ∈ rows, r.length = m) (i : Nat) (f : List Value → List Value) (hf : ∀ r, (f r).length = r.length) : ∀ r ∈ rows.modify i f, r.length = m := by
  intro r hr
  obtain ⟨j, hj, rfl⟩ := List.mem_iff_getElem.1 hr
  rw [List.getElem_modify]
  have hj' : j < rows.length := by simpa using hj
  split
  · rw [hf]; exact h _ (List.getElem_mem hj')
  · exact h _ (List.getElem_mem hj')
/-- Many stores into one row. -/
def setMany (r : List Value) : List (Nat × Value) → List Value
  | [] => r
  | (k, v) :: l => setMany (r.set k v) l
theorem modify_modify (rows : List (List Value)) (i : Nat) (f g : List Value → List Value) : (rows.modify i f).modify i g = rows.modify i (fun r => g (f r)) := by
  apply List.ext_getElem (by simp)
  intro j h1 h2
  simp only [List.getElem_modify]
  split <;> rfl
theorem modify_is_set (rows : List (List Value)) (i : Nat) (f : List Value → List Value) (hi : i < rows.length) {r : List Value} (h : f rows[i] = r) : rows.modify i f = rows.set i r := by
  apply List.ext_getElem (by simp)
  intro j h1 h2
  simp only [List.getElem_modify, List.getElem_set]
  split
  · rename_i e; subst e; exact h
  · rfl
end Go.Proofs.Ytaklfjjkeebheaa
