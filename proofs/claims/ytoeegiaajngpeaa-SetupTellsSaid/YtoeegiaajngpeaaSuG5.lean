/-
  Joined texts: Kit Turn Ow.
-/
import Derived.Test.YtoeegiaajngpeaaBase
import Derived.Maps.AppendAt
import Derived.OwnWalk
import Derived.Test.YtoeegiaajngpeaaSuG1
/-
  More small lemmas on worlds, said of any program: what a cell holds behind a draw, an alloc, a store elsewhere. Nothing of the program.
-/
namespace Go.Proofs.Ytoeegiaajngpeaa
set_option linter.unusedVariables false
open Go Go.RowKit
theorem cell_drew {w : World} {p : Addr} {v : Option Value} (h : w.cell? p = v) : w.drew.cell? p = v := h
theorem cell_alloc {w : World} {b o : Nat} {v : Value} {x : Obj} (h : w.cell? ⟨b, o, none⟩ = some v) : (w.alloc x).cell? ⟨b, o, none⟩ = some v := later (ext_alloc (ext_refl _) _) h
theorem cell_store {w : World} {b o : Nat} {x : Value} {p : Addr} {v : Value} (hne : b ≠ p.block) (h : w.cell? ⟨b, o, none⟩ = some x) : (w.setCell p v).cell? ⟨b, o, none⟩ = some x := cell_set h p v hne
theorem set_set (w : World) (b o : Nat) (v v' : Value) : (w.setCell ⟨b, o, none⟩ v).setCell ⟨b, o, none⟩ v' = w.setCell ⟨b, o, none⟩ v' := by
  simp only [World.setCell]
  congr 1
  apply Array.ext (by simp)
  intro i h1 h2
  by_cases h : i = b
  · subst h
    simp only [Array.getElem_modify, if_true]
    generalize w.heap[i]'(by simpa using h1) = X
    cases X <;> simp
  · simp [Array.getElem_modify, Ne.symm h]
end Go.Proofs.Ytoeegiaajngpeaa
/-
  Worlds in which some blocks alone have turned; rows of cells as lists of lists. Said of any program. Nothing of the program.
-/
namespace Go.Proofs.Ytoeegiaajngpeaa
set_option linter.unusedVariables false
open Go Go.RowKit

/-- From w to w' nothing has turned but the blocks of the list, and new ones. -/
structure Turn (l : List Nat) (w w' : World) : Prop where
  os : w'.os = w.os
  tape : w'.tape = w.tape
  output : w'.output = w.output
  size : w.heap.size ≤ w'.heap.size
  block : ∀ k, k < w.heap.size → k ∉ l → w'.heap[k]? = w.heap[k]?
theorem Turn.refl (l : List Nat) (w : World) : Turn l w w := ⟨rfl, rfl, rfl, Nat.le_refl _, fun _ _ _ => rfl⟩
theorem Turn.trans {l : List Nat} {a b c : World} (h : Turn l a b) (k : Turn l b c) : Turn l a c :=
  ⟨k.os.trans h.os, k.tape.trans h.tape, k.output.trans h.output, Nat.le_trans h.size k.size, fun i hi hn => (k.block i (Nat.lt_of_lt_of_le hi h.size) hn).trans (h.block i hi hn)⟩
theorem Turn.mono {l m : List Nat} {a b : World} (h : Turn l a b) (hs : ∀ x ∈ l, x ∈ m) : Turn m a b := ⟨h.os, h.tape, h.output, h.size, fun i hi hn => h.block i hi fun hm => hn (hs i hm)⟩
theorem Turn.of_below {l : List Nat} {a b : World} (h : Below a.heap.size a b) : Turn l a b := ⟨h.os, h.tape, h.output, h.size, fun i hi _ => h.block i hi⟩
theorem Turn.drew {l : List Nat} {a b : World} (h : Turn l a b) : Turn l a b.drew := ⟨h.os, h.tape, h.output, h.size, h.block⟩
theorem Turn.drewN {l : List Nat} {a b : World} (h : Turn l a b) (n : Nat) : Turn l a (b.drewN n) := h.trans (Turn.of_below (ext_drewN (ext_refl _) n))
theorem Turn.alloc {l : List Nat} {a b : World} (h : Turn l a b) (o : Obj) : Turn l a (b.alloc o) := h.trans (Turn.of_below (ext_alloc (ext_refl _) o))
theorem Turn.setCell {l : List Nat} {a b : World} (h : Turn l a b) {p : Addr} (hp : p.block ∈ l ∨ a.heap.size ≤ p.block) (u : Value) : Turn l a (b.setCell p u) :=
  ⟨h.os, h.tape, h.output, Nat.le_trans h.size (by simp [World.setCell]), fun i hi hn => by
    rw [Below.heap_setCell _ _ _ _ (by rintro rfl; rcases hp with hp | hp; exact hn hp; omega)]
    exact h.block i hi hn⟩
theorem Turn.below {l : List Nat} {a b : World} (h : Turn l a b) {B : Nat} (hl : ∀ x ∈ l, B ≤ x) (hB : B ≤ a.heap.size) : Below B a b :=
  ⟨h.os, h.tape, h.output, h.size, fun k hk => h.block k (by omega) fun hm => by have := hl k hm; omega⟩
theorem Turn.nil {a b : World} (h : Turn [] a b) : Below a.heap.size a b := h.below (by simp) (Nat.le_refl _)
theorem Turn.cell {l : List Nat} {a b : World} (h : Turn l a b) {k o : Nat} {v : Value} (hn : k ∉ l) (hc : a.cell? ⟨k, o, none⟩ = some v) : b.cell? ⟨k, o, none⟩ = some v := by
  rw [World.cell?_of_block (w := a) (h.block k (lt_of_cell hc) hn)]; exact hc
theorem Turn.blk {l : List Nat} {a b : World} (h : Turn l a b) {k : Nat} {cs : Array Value} {t : TypeId} (hn : k ∉ l) (hc : Blk a k cs t) : Blk b k cs t := by
  unfold Blk; rw [h.block k hc.lt hn]; exact hc

/-- Rows of m cells each, one behind the other. -/
def flatA (rows : List (List Value)) : Array Value := rows.flatten.toArray
theorem flat_get {m : Nat} : ∀ {rows : List (List Value)}, (∀ r ∈ rows, r.length = m) → ∀ (i k : Nat) (hi : i < rows.length), k < m → rows.flatten[i * m + k]? = (rows[i])[k]?
  | [], _, i, k, hi, _ => by simp at hi
  | r :: rs, h, 0, k, hi, hk => by
    have hr := h r (by simp)
    simp only [List.flatten_cons, Nat.zero_mul, Nat.zero_add, List.getElem_cons_zero]
    rw [List.getElem?_append_left (by omega)]
  | r :: rs, h, i + 1, k, hi, hk => by
    have hr := h r (by simp)
    simp only [List.flatten_cons, List.getElem_cons_succ]
    rw [List.getElem?_append_right (by rw [hr, Nat.succ_mul]; omega), hr]
    have e : (i + 1) * m + k - m = i * m + k := by rw [Nat.succ_mul]; omega
    rw [e]
    exact flat_get (fun x hx => h x (by simp [hx])) i k (by simpa using hi) hk
theorem flat_set {m : Nat} : ∀ {rows : List (List Value)}, (∀ r ∈ rows, r.length = m) → ∀ (i k : Nat) (v : Value), i < rows.length → k < m → rows.flatten.set (i * m + k) v = (rows.modify i (fun r => r.set k v)).flatten
  | [], _, i, k, v, hi, _ => by simp at hi
  | r :: rs, h, 0, k, v, hi, hk => by
    have hr := h r (by simp)
    simp only [List.flatten_cons, Nat.zero_mul, Nat.zero_add, List.modify_zero_cons]
    rw [List.set_append_left _ _ (by omega)]
  | r :: rs, h, i + 1, k, v, hi, hk => by
    have hr := h r (by simp)
    simp only [List.flatten_cons, List.modify_succ_cons]
    rw [List.set_append_right _ _ (by rw [hr, Nat.succ_mul]; omega), hr]
    have e : (i + 1) * m + k - m = i * m + k := by rw [Nat.succ_mul]; omega
    rw [e, flat_set (fun x hx => h x (by simp [hx])) i k v (by simpa using hi) hk]
theorem flatA_get {m : Nat} {rows : List (List Value)} (h : ∀ r ∈ rows, r.length = m) (i k : Nat) (hi : i < rows.length) (hk : k < m) : (flatA rows)[i * m + k]? = (rows[i])[k]? := by
  unfold flatA; rw [List.getElem?_toArray]; exact flat_get h i k hi hk
theorem flatA_set {m : Nat} {rows : List (List Value)} (h : ∀ r ∈ rows, r.length = m) (i k : Nat) (v : Value) (hi : i < rows.length) (hk : k < m) : (flatA rows).setIfInBounds (i * m + k) v = flatA (rows.modify i (fun r => r.set k v)) := by
  unfold flatA; rw [List.setIfInBounds_toArray, flat_set h i k v hi hk]
theorem modify_len {m : Nat} {rows : List (List Value)} (h : ∀ r ∈ rows, r.length = m) (i : Nat) (f : List Value → List Value) (hf : ∀ r, (f r).length = r.length) : ∀ r ∈ rows.modify i f, r.length = m := by
  intro r hr
  obtain ⟨j, hj, rfl⟩ := List.mem_iff_getElem.1 hr
  rw [List.getElem_modify]
  have hj' : j < rows.length := by simpa using hj
  split
  · rw [hf]; exact h _ (List.getElem_mem hj')
  · exact h _ (List.getElem_mem hj')
/-- Many stores into one row. -/
def setMany (r : List Value) : List (Nat × Value) → List Value
  | [] => r
  | (k, v) :: l => setMany (r.set k v) l
theorem modify_modify (rows : List (List Value)) (i : Nat) (f g : List Value → List Value) : (rows.modify i f).modify i g = rows.modify i (fun r => g (f r)) := by
  apply List.ext_getElem (by simp)
  intro j h1 h2
  simp only [List.getElem_modify]
  split <;> rfl
theorem modify_is_set (rows : List (List Value)) (i : Nat) (f : List Value → List Value) (hi : i < rows.length) {r : List Value} (h : f rows[i] = r) : rows.modify i f = rows.set i r := by
  apply List.ext_getElem (by simp)
  intro j h1 h2
  simp only [List.getElem_modify, List.getElem_set]
  split
  · rename_i e; subst e; exact h
  · rfl
end Go.Proofs.Ytoeegiaajngpeaa
/-
  A region 'x[i] = append(append([]T{}, x[i]...), y)' that draws its order: what holds while it runs. Of any program.
-/
namespace Go.Proofs.Ytoeegiaajngpeaa
set_option linter.unusedVariables false
open Go Go.RowKit
section
variable {P : Program}
theorem run_app_cap0 (w : World) (t ty e : TypeId) (i : TypeInfo) (size bytes : Nat) (ht : P.underlying t = some (.slice e)) (hi : P.info? e = some i) (hsize : i.size = size) (hby : i.bytes = bytes)
    (ad : Addr) (A : Option Addr) (m c : Nat) (hm : 0 < m) (hbytes : m * bytes ≤ 140737488355328) :
    (Builtin.append_ #[t, t] ty #[.slice (some ad) 0 0, .slice A m c]).run P w = (Builtin.append_ #[t, t] ty #[.slice none 0 0, .slice A m c]).run P w := by
  subst hsize; subst hby
  have h1 : ¬ m = 0 := by omega
  have h2 : ¬ (Builtin.nextslicecap m 0 * i.bytes > 281474976710656) := by
    have : Builtin.nextslicecap m 0 = m := by simp [Builtin.nextslicecap, hm]
    rw [this]; omega
  simp [Builtin.append_, run_underlying ht, sizeOf, typeInfo, hi, Builtin.lenOf, Builtin.firstCells, h1, h2, loadCells, loadCellsFrom]

theorem own_old {w : World} {base : Nat} {e : TypeId} {size : Nat} {v : Value} {n : Nat} {xs : List Value} (h : w.ownsRow base e size v n xs) {w' : World} (hb : Below w.heap.size w w') : w'.ownsRow base e size v n xs :=
  h.kept (row := none) ⟨hb.os, hb.tape, hb.output, hb.size, fun k hk _ => hb.block k hk⟩ (by cases v.ownBlock <;> simp)
theorem own_form {w : World} {base : Nat} {e : TypeId} {size : Nat} {v : Value} {n : Nat} {xs : List Value} (h : w.ownsRow base e size v (n + 1) xs) : ∃ g cap, v = .slice (some ⟨g, 0, none⟩) (n + 1) cap := by
  rcases h.2 with ⟨_, h0⟩ | ⟨g, cap, cur, hv, -⟩
  · omega
  · exact ⟨g, cap, hv⟩
/-- A slice that stands in a slot: nil, or its own. -/
def RowV (w : World) (base : Nat) (e : TypeId) (v : Value) (xs : List Value) : Prop := w.ownsRow base e 1 v xs.length xs ∧ (xs = [] → v = .slice none 0 0)
theorem RowV.nil (w : World) (base : Nat) (e : TypeId) : RowV w base e (.slice none 0 0) [] := ⟨World.ownsRow_nil w _ _ _, fun _ => rfl⟩
theorem RowV.old {w w' : World} {base : Nat} {e : TypeId} {v : Value} {xs : List Value} (h : RowV w base e v xs) (hb : Below w.heap.size w w') : RowV w' base e v xs := ⟨own_old h.1 hb, h.2⟩
/-- Slots whose blocks stand. -/
theorem RowV.turn {w w' : World} {base : Nat} {e : TypeId} {v : Value} {xs : List Value} {l : List Nat} (h : RowV w base e v xs) (hb : Turn l w w') (hl : ∀ k ∈ l, k < base) : RowV w' base e v xs := by
  refine ⟨?_, h.2⟩
  obtain ⟨h1, h2⟩ := h.1
  refine ⟨h1, ?_⟩
  rcases h2 with h2 | ⟨g, cap, cur, rfl, hbg, hg, rest⟩
  · exact Or.inl h2
  · refine Or.inr ⟨g, cap, cur, rfl, hbg, ?_, rest⟩
    rw [hb.block g (Array.getElem?_eq_some_iff.1 hg).1 (fun hm => by have := hl g hm; omega)]; exact hg
theorem RowV.cases {w : World} {base : Nat} {e : TypeId} {v : Value} {xs : List Value} (h : RowV w base e v xs) : (xs = [] ∧ v = .slice none 0 0) ∨ ∃ g cap, v = .slice (some ⟨g, 0, none⟩) xs.length cap ∧ 0 < xs.length ∧ base ≤ g ∧ ∀ (j : Nat) (u : Value), xs[j]? = some u → w.cell? ⟨g, j, none⟩ = some u := by
  by_cases hx : xs = []
  · exact Or.inl ⟨hx, h.2 hx⟩
  · have hp : 0 < xs.length := List.length_pos_iff.2 hx
    right
    rcases h.1.2 with ⟨-, h0⟩ | ⟨g, cap, cur, rfl, hbg, hg, -, -, -, ht⟩
    · omega
    · refine ⟨g, cap, rfl, hp, hbg, fun j u hu => ?_⟩
      have hc := h.1.cells (g := g) rfl j u hu
      have : (⟨g, 0, none⟩ : Addr).add j = ⟨g, j, none⟩ := by unfold Addr.add; split <;> simp_all
      rwa [this] at hc
theorem run_app0 (w : World) (base : Nat) (t ty e : TypeId) (i : TypeInfo) (z : Value) (bytes : Nat) (ht : P.underlying t = some (.slice e)) (hi : P.info? e = some i) (hz : i.zero = some z) (hsize : i.size = 1) (hby : i.bytes = bytes) (hzs : z.cells.size = 1)
    (ad : Addr) (hown : w.ownsRow base e 1 (.slice (some ad) 0 0) 0 []) (v : Value) (xs : List Value) {base' : Nat} (hv : RowV w base' e v xs) (h1 : ∀ u ∈ xs, u.oneCell' = true) (h63 : xs.length ≤ maxLen) (hbytes : xs.length * bytes ≤ 140737488355328) (hbase : base ≤ w.heap.size) :
    ∃ v' w', (Builtin.append_ #[t, t] ty #[.slice (some ad) 0 0, v]).run P w = .ok v' w' ∧ Below w.heap.size w w' ∧ w'.ownsRow base e 1 v' xs.length xs := by
  rcases hv.cases with ⟨rfl, rfl⟩ | ⟨g, cap, rfl, hp, hbg, hc⟩
  · exact ⟨_, w, run_append_owned_none w base t ty e i 1 ht hi _ 0 [] hown, ext_refl _, hown⟩
  · obtain ⟨v', w', hrun, hown', hg, -, -⟩ := run_append_own_at (P := P) w base t ty e i z 1 bytes ht hi hz hsize hby hzs (by omega) (.slice none 0 0) 0 [] (World.ownsRow_nil w _ _ _) ⟨g, 0, none⟩ xs.length cap xs (by omega)
      (fun j u hu => by
        have : (⟨g, 0, none⟩ : Addr).add j = ⟨g, j, none⟩ := by unfold Addr.add; split <;> simp_all
        rw [this]; exact hc j u hu) h1 (by rw [Nat.zero_add]; exact h63) (by rw [Nat.zero_add]; exact hbytes) hbase
    rw [run_app_cap0 w t ty e i 1 bytes ht hi hsize hby ad (some ⟨g, 0, none⟩) xs.length cap hp hbytes, hrun]
    rw [Nat.zero_add, List.nil_append] at hown'
    exact ⟨v', w', rfl, ⟨hg.os, hg.tape, hg.output, hg.size, fun k hk => hg.block k hk (by simp [Value.ownBlock])⟩, hown'⟩

/-- What holds while the region runs: B, o: the slot; kn: what is known ahead. -/
structure AJ (w : World) (B o : Nat) (e : TypeId) (cs : Array Value) (tb : TypeId) (xs : List Value) (x : Value) (kn : Nat → Value) (l : Nat → Bool) (v : Nat → Value) (w' : World) : Prop where
  ord : l 11 = true → ∀ i, i < 11 → l i = true
  low : l 11 = false → Below w.heap.size w w'
  kn : ∀ i, i = 0 ∨ i = 2 ∨ i = 3 ∨ i = 4 ∨ i = 6 ∨ i = 7 ∨ i = 10 → l i = true → v i = kn i
  e1 : l 1 = true → l 5 = false → ∃ g, v 1 = .slice (some ⟨g, 0, none⟩) 0 0 ∧ w'.ownsRow w.heap.size e 1 (v 1) 0 []
  e5 : l 5 = true → l 9 = false → w'.ownsRow w.heap.size e 1 (v 5) xs.length xs
  e8 : l 8 = true → l 9 = false → ∃ g, v 8 = .slice (some ⟨g, 0, none⟩) 1 1 ∧ w'.cell? ⟨g, 0, none⟩ = some x
  e9 : l 9 = true → l 11 = false → w'.ownsRow w.heap.size e 1 (v 9) (xs.length + 1) (xs ++ [x])
  fin : l 11 = true → ∃ v9, Turn [B] w w' ∧ Blk w' B (cs.setIfInBounds o v9) tb ∧ RowV w' w.heap.size e v9 (xs ++ [x])
variable {w : World} {B o : Nat} {e : TypeId} {cs : Array Value} {tb : TypeId} {xs : List Value} {x : Value} {kn : Nat → Value} {l l' : Nat → Bool} {v : Nat → Value} {w' w'' : World}
theorem AJ.ext (h : ∀ i, i < 12 → l i = l' i) (H : AJ w B o e cs tb xs x kn l v w') : AJ w B o e cs tb xs x kn l' v w' where
  ord g i hi := by rw [← h i (by omega)]; exact H.ord (by rw [h 11 (by omega)]; exact g) i hi
  low g := H.low (by rw [h 11 (by omega)]; exact g)
  kn i hi g := H.kn i hi (by rw [h i (by omega)]; exact g)
  e1 g g' := H.e1 (by rw [h 1 (by omega)]; exact g) (by rw [h 5 (by omega)]; exact g')
  e5 g g' := H.e5 (by rw [h 5 (by omega)]; exact g) (by rw [h 9 (by omega)]; exact g')
  e8 g g' := H.e8 (by rw [h 8 (by omega)]; exact g) (by rw [h 9 (by omega)]; exact g')
  e9 g g' := H.e9 (by rw [h 9 (by omega)]; exact g) (by rw [h 11 (by omega)]; exact g')
  fin g := H.fin (by rw [h 11 (by omega)]; exact g)
theorem AJ.start (w : World) (B o : Nat) (e : TypeId) (cs : Array Value) (tb : TypeId) (xs : List Value) (x : Value) (kn : Nat → Value) : AJ w B o e cs tb xs x kn (fun _ => false) (fun _ => undef) w.drew :=
  ⟨fun h => by (cases h), fun _ => ext_drew (ext_refl _), fun _ _ h => by (cases h), fun h => by (cases h), fun h => by (cases h), fun h => by (cases h), fun h => by (cases h), fun h => by (cases h)⟩
theorem AJ.not (H : AJ w B o e cs tb xs x kn l v w') {i : Nat} (hi : i < 11) (hl : l i = false) : l 11 = false := by
  cases h : l 11 with
  | false => rfl
  | true => rw [H.ord h i hi] at hl; cases hl
/-- A step that leaves old blocks as they are, but for the second append and the store. -/
theorem AJ.put {y : Value} (i : Nat) (hi : i < 9 ∨ i = 10) (hl : l i = false) (H : AJ w B o e cs tb xs x kn l v w') (hb : Below w'.heap.size w' w'')
    (h0 : i = 0 ∨ i = 2 ∨ i = 3 ∨ i = 4 ∨ i = 6 ∨ i = 7 ∨ i = 10 → y = kn i) (h1 : i = 1 → ∃ g, y = .slice (some ⟨g, 0, none⟩) 0 0 ∧ w''.ownsRow w.heap.size e 1 y 0 [])
    (h5 : i = 5 → w''.ownsRow w.heap.size e 1 y xs.length xs) (h8 : i = 8 → ∃ g, y = .slice (some ⟨g, 0, none⟩) 1 1 ∧ w''.cell? ⟨g, 0, none⟩ = some x) : AJ w B o e cs tb xs x kn (doneL l i) (doneV v i y) w'' := by
  have h11 : l 11 = false := H.not (by omega) hl
  have n11 : doneL l i 11 = false := by unfold doneL; rw [if_neg (by omega)]; exact h11
  have eL : ∀ j, j ≠ i → doneL l i j = l j := fun j h => by unfold doneL; rw [if_neg h]
  have eV : ∀ j, j ≠ i → doneV v i y j = v j := fun j h => by unfold doneV; rw [if_neg h]
  have iV : doneV v i y i = y := by unfold doneV; rw [if_pos rfl]
  have tL : ∀ {j}, doneL l i j = false → l j = false := by intro j h; unfold doneL at h; split at h; cases h; exact h
  refine ⟨fun g => by (rw [n11] at g; cases g), fun _ => ext_trans (H.low h11) hb, fun j hj g => ?_, fun g g' => ?_, fun g g' => ?_, fun g g' => ?_, fun g g' => ?_, fun g => by (rw [n11] at g; cases g)⟩
  · by_cases hh : j = i
    · subst hh; rw [iV]; exact h0 hj
    · rw [eL j hh] at g; rw [eV j hh]; exact H.kn j hj g
  · by_cases hh : 1 = i
    · subst hh; rw [iV]; exact h1 rfl
    · rw [eL 1 hh] at g; rw [eV 1 hh]
      obtain ⟨a, a1, a2⟩ := H.e1 g (tL g')
      exact ⟨a, a1, own_old a2 hb⟩
  · by_cases hh : 5 = i
    · subst hh; rw [iV]; exact h5 rfl
    · rw [eL 5 hh] at g; rw [eV 5 hh]; exact own_old (H.e5 g (tL g')) hb
  · by_cases hh : 8 = i
    · subst hh; rw [iV]; exact h8 rfl
    · rw [eL 8 hh] at g; rw [eV 8 hh]
      obtain ⟨a, a1, a2⟩ := H.e8 g (tL g')
      exact ⟨a, a1, later hb a2⟩
  · rw [eL 9 (by omega)] at g; rw [eV 9 (by omega)]; exact own_old (H.e9 g h11) hb
/-- The second append. -/
theorem AJ.put9 {y : Value} (hl : l 9 = false) (h5 : l 5 = true) (h8 : l 8 = true) (H : AJ w B o e cs tb xs x kn l v w') (hg : w'.grownBy w'' (v 5).ownBlock) (hy : w''.ownsRow w.heap.size e 1 y (xs.length + 1) (xs ++ [x])) : AJ w B o e cs tb xs x kn (doneL l 9) (doneV v 9 y) w'' := by
  have h11 : l 11 = false := H.not (by omega) hl
  have n11 : doneL l 9 11 = false := by unfold doneL; rw [if_neg (by omega)]; exact h11
  have eL : ∀ j, j ≠ 9 → doneL l 9 j = l j := fun j h => by unfold doneL; rw [if_neg h]
  have eV : ∀ j, j ≠ 9 → doneV v 9 y j = v j := fun j h => by unfold doneV; rw [if_neg h]
  have i9 : doneL l 9 9 = true := by unfold doneL; rw [if_pos rfl]
  have iV : doneV v 9 y 9 = y := by unfold doneV; rw [if_pos rfl]
  have own := H.e5 h5 hl
  have hlow := H.low h11
  refine ⟨fun g => by (rw [n11] at g; cases g), fun _ => hlow.grown hg hlow.size (fun k hk => (own.lt k hk).1), fun j hj g => ?_, fun g g' => ?_, fun g g' => by (rw [i9] at g'; cases g'), fun g g' => by (rw [i9] at g'; cases g'), fun g g' => by (rw [iV]; exact hy), fun g => by (rw [n11] at g; cases g)⟩
  · rw [eL j (by omega)] at g; rw [eV j (by omega)]; exact H.kn j hj g
  · rw [eL 5 (by omega), h5] at g'; cases g'
/-- The store. -/
theorem AJ.put11 (hB : Blk w B cs tb) (hl : l 11 = false) (hall : ∀ i, i < 11 → l i = true) (H : AJ w B o e cs tb xs x kn l v w') (hx : xs ++ [x] ≠ []) : AJ w B o e cs tb xs x kn (doneL l 11) (doneV v 11 undef) (w'.setCell ⟨B, o, none⟩ (v 9)) := by
  have eL : ∀ j, j ≠ 11 → doneL l 11 j = l j := fun j h => by unfold doneL; rw [if_neg h]
  have eV : ∀ j, j ≠ 11 → doneV v 11 undef j = v j := fun j h => by unfold doneV; rw [if_neg h]
  have i11 : doneL l 11 11 = true := by unfold doneL; rw [if_pos rfl]
  have hlow := H.low hl
  have own := H.e9 (hall 9 (by omega)) hl
  refine ⟨fun _ i hi => by (rw [eL i (by omega)]; exact hall i hi), fun g => by (rw [i11] at g; cases g), fun j hj g => ?_, fun g g' => ?_, fun g g' => ?_, fun g g' => ?_, fun g g' => by (rw [i11] at g'; cases g'), fun _ => ⟨v 9, ?_, ?_, ?_, fun h => absurd h hx⟩⟩
  · rw [eL j (by omega)] at g; rw [eV j (by omega)]; exact H.kn j hj g
  · rw [eL 5 (by omega), hall 5 (by omega)] at g'; cases g'
  · rw [eL 9 (by omega), hall 9 (by omega)] at g'; cases g'
  · rw [eL 9 (by omega), hall 9 (by omega)] at g'; cases g'
  · exact (Turn.of_below hlow).setCell (Or.inl (by simp)) _
  · exact (hB.below hlow).set o (v 9)
  · have hlen : (xs ++ [x]).length = xs.length + 1 := by simp
    rw [hlen]
    refine own.kept (row := some B) ⟨rfl, rfl, rfl, by simp [World.setCell], fun k hk hne => Below.heap_setCell _ _ _ _ (fun hh => hne (by rw [hh]))⟩ (Or.inr fun hh => ?_)
    have := (own.lt B hh).1
    have := hB.lt
    omega
end
section
variable {P : Program}
theorem opY_append {o : Oper} {ρ : Operand → Value} {w w' : World} {R : Value → World → Prop} {s x : Operand} {t : TypeId} {vs vx v' : Value}
    (ho : o.op = .call { callee := .builtin .append, args := #[s, x], argTypes := #[t, t] }) (hs : ρ s = vs) (hx : ρ x = vx) (hrun : (Builtin.append_ #[t, t] o.type #[vs, vx]).run P w = .ok v' w') (h : R v' w') : OpY P o ρ w R := by
  unfold OpY OpR execOp
  simp only [ho, resolve, invoke, builtin, Sem.run_bind, Sem.run_pure, Result.andThen_ok, List.map_toArray, List.map_cons, List.map_nil, hs, hx, hrun]
  exact h
variable {ops : Array Oper} {Q : Exit → Act → World → Prop}
theorem wp_region_app {id : Nat} {a : Act} {aF : (Nat → Value) → Act} {w : World} (B o : Nat) (e : TypeId) (cs : Array Value) (tb : TypeId) (xs : List Value) (x : Value) (kn : Nat → Value)
    (hF : ∀ vals, putAll ops vals (fun _ => true) a ops.size = aF vals) (hm : P.follows .mixedOrders = true) (hd : dstsApart ops = true) (hb : edgesBackB ops = true) (hng : guardsOk ops = true)
    (hsz : (List.range ops.size).all (fun i => match dstOf ops i with | some d => decide (d < a.tmps.size) | none => true) = true)
    (h12 : ops.size = 12)
    (hstep : EachOp (fun i o' => StepJ P ops (AJ w B o e cs tb xs x kn) a i o') 0 ops.toList)
    (hdone : ∀ (vals : Nat → Value) w', (∃ v9, Turn [B] w w' ∧ Blk w' B (cs.setIfInBounds o v9) tb ∧ RowV w' w.heap.size e v9 (xs ++ [x])) → Q .normal (aF vals) w') :
    (Code.region id ops true).wp P Q a w :=
  wp_region_inv' (AJ w B o e cs tb xs x kn) hF hm hd hb hng hsz (fun l l' v w' h H => H.ext (fun i hi => h i (by omega))) (AJ.start w B o e cs tb xs x kn) hstep (fun vals w' H => hdone vals w' (H.fin rfl))
end
end Go.Proofs.Ytoeegiaajngpeaa
