/-
  Joined texts: Base Kit Turn CopyM ApS RgF RgK Frame.
-/
import Derived.WalkKit
import Derived.WalkSpells
import Derived.Deep.Draws
import Derived.Laws.CopyOwn
import Derived.Maps.AppendAt
import Derived.OwnWalk
import Derived.RangeFuncNested
import Derived.RangeFuncLeaves
import Derived.OwnWalkIn
import Derived.ProofKit
import Derived.OpenShut
import Derived.Carry
/-
  Small lemmas, said of any program: hidden facts, worlds that grow, cells that stay. Nothing of the program.
-/
namespace Go.Proofs.YtnblhodhkifeeaaGreatDoor
set_option linter.unusedVariables false
open Go Go.RowKit
theorem hid {p : Prop} (h : p) : Hid p := h
theorem lt_of_cell {w : World} {b o : Nat} {v : Value} (h : w.cell? ⟨b, o, none⟩ = some v) : b < w.heap.size := by
  unfold World.cell? at h
  rcases Nat.lt_or_ge b w.heap.size with h' | h'
  · exact h'
  · simp [Array.getElem?_eq_none h'] at h
theorem later {w w' : World} {b o : Nat} {v : Value} (hb : Below w.heap.size w w') (h : w.cell? ⟨b, o, none⟩ = some v) : w'.cell? ⟨b, o, none⟩ = some v := by
  rw [hb.cell (p := ⟨b, o, none⟩) (lt_of_cell h)]; exact h
theorem ext_refl (w : World) : Below w.heap.size w w := Below.refl _ _
theorem ext_trans {a b c : World} (h : Below a.heap.size a b) (k : Below b.heap.size b c) : Below a.heap.size a c := h.trans (k.mono h.size)
theorem ext_alloc {a b : World} (h : Below a.heap.size a b) (o : Obj) : Below a.heap.size a (b.alloc o) := h.alloc h.size o
theorem ext_drew {a b : World} (h : Below a.heap.size a b) : Below a.heap.size a b.drew := h.drew
theorem ext_drewN {a b : World} (h : Below a.heap.size a b) (n : Nat) : Below a.heap.size a (b.drewN n) := by
  induction n with
  | zero => exact h
  | succ n ih => exact ⟨ih.os, ih.tape, ih.output, ih.size, ih.block⟩
theorem ext_set {a b : World} (h : Below a.heap.size a b) {p : Addr} (hp : a.heap.size ≤ p.block) (u : Value) : Below a.heap.size a (b.setCell p u) := h.setCell hp u
def Blk (w : World) (b : Nat) (cs : Array Value) (t : TypeId) : Prop := w.heap[b]? = some (.cells cs t (0, 0))
theorem Blk.cell {w : World} {b : Nat} {cs : Array Value} {t : TypeId} (h : Blk w b cs t) (o : Nat) {v : Value} (hv : cs[o]? = some v) : w.cell? ⟨b, o, none⟩ = some v := by
  unfold Blk at h
  simp [World.cell?, h, hv]
theorem Blk.free {w : World} {b : Nat} {cs : Array Value} {t : TypeId} (h : Blk w b cs t) (o : Nat) : w.frozen? ⟨b, o, none⟩ = false := by
  unfold Blk at h
  simp [World.frozen?, h]
theorem Blk.lt {w : World} {b : Nat} {cs : Array Value} {t : TypeId} (h : Blk w b cs t) : b < w.heap.size := by
  unfold Blk at h
  rcases Nat.lt_or_ge b w.heap.size with h' | h'
  · exact h'
  · simp [Array.getElem?_eq_none h'] at h
theorem Blk.new (w : World) (cs : Array Value) (t : TypeId) : Blk (w.alloc (.cells cs t)) w.heap.size cs t := by
  show (w.heap.push _)[w.heap.size]? = _
  simp
theorem Blk.new' (w : World) (cs : Array Value) (t : TypeId) {b : Nat} (h : b = w.heap.size) : Blk (w.alloc (.cells cs t)) b cs t := by subst h; exact Blk.new w cs t
theorem Blk.below {w w' : World} {b : Nat} {cs : Array Value} {t : TypeId} (hb : Below w.heap.size w w') (h : Blk w b cs t) : Blk w' b cs t := by
  have hl := h.lt
  unfold Blk at h ⊢
  rw [hb.block b hl]; exact h
theorem Blk.alloc {w : World} {b : Nat} {cs : Array Value} {t : TypeId} (h : Blk w b cs t) (o : Obj) : Blk (w.alloc o) b cs t := h.below (ext_alloc (ext_refl _) o)
theorem Blk.drew {w : World} {b : Nat} {cs : Array Value} {t : TypeId} (h : Blk w b cs t) : Blk w.drew b cs t := h
theorem Blk.set {w : World} {b : Nat} {cs : Array Value} {t : TypeId} (h : Blk w b cs t) (o : Nat) (v : Value) : Blk (w.setCell ⟨b, o, none⟩ v) b (cs.setIfInBounds o v) t := by
  unfold Blk at h ⊢
  simp [World.setCell, Array.getElem?_modify, h]
theorem Blk.set_other {w : World} {b : Nat} {cs : Array Value} {t : TypeId} (h : Blk w b cs t) (p : Addr) (v : Value) (hne : b ≠ p.block) : Blk (w.setCell p v) b cs t := by
  unfold Blk at h ⊢
  rw [Below.heap_setCell _ _ _ _ hne]; exact h
theorem ret_int {k : IntKind} {a b : Int} (h : a = b) : Ending.returned (.int k a) = .returned (.int k b) := by rw [h]
end Go.Proofs.YtnblhodhkifeeaaGreatDoor
/-
  More small lemmas on worlds, said of any program: what a cell holds behind a draw, an alloc, a store elsewhere. Nothing of the program.
-/
namespace Go.Proofs.YtnblhodhkifeeaaGreatDoor
set_option linter.unusedVariables false
open Go Go.RowKit
theorem cell_alloc {w : World} {b o : Nat} {v : Value} {x : Obj} (h : w.cell? ⟨b, o, none⟩ = some v) : (w.alloc x).cell? ⟨b, o, none⟩ = some v := later (ext_alloc (ext_refl _) _) h
theorem set_set (w : World) (b o : Nat) (v v' : Value) : (w.setCell ⟨b, o, none⟩ v).setCell ⟨b, o, none⟩ v' = w.setCell ⟨b, o, none⟩ v' := by
  simp only [World.setCell]
  congr 1
  apply Array.ext (by simp)
  intro i h1 h2
  by_cases h : i = b
  · subst h
    simp only [Array.getElem_modify, if_true]
    generalize w.heap[i]'(by simpa using h1) = X
    cases X <;> simp
  · simp [Array.getElem_modify, Ne.symm h]
end Go.Proofs.YtnblhodhkifeeaaGreatDoor
/-
  Worlds in which some blocks alone have turned; rows of cells as lists of lists. Said of any program. Nothing of the program.
-/
namespace Go.Proofs.YtnblhodhkifeeaaGreatDoor
set_option linter.unusedVariables false
open Go Go.RowKit
structure Turn (l : List Nat) (w w' : World) : Prop where
  os : w'.os = w.os
  tape : w'.tape = w.tape
  output : w'.output = w.output
  size : w.heap.size ≤ w'.heap.size
  block : ∀ k, k < w.heap.size → k ∉ l → w'.heap[k]? = w.heap[k]?
theorem Turn.refl (l : List Nat) (w : World) : Turn l w w := ⟨rfl, rfl, rfl, Nat.le_refl _, fun _ _ _ => rfl⟩
theorem Turn.trans {l : List Nat} {a b c : World} (h : Turn l a b) (k : Turn l b c) : Turn l a c :=
  ⟨k.os.trans h.os, k.tape.trans h.tape, k.output.trans h.output, Nat.le_trans h.size k.size, fun i hi hn => (k.block i (Nat.lt_of_lt_of_le hi h.size) hn).trans (h.block i hi hn)⟩
theorem Turn.mono {l m : List Nat} {a b : World} (h : Turn l a b) (hs : ∀ x ∈ l, x ∈ m) : Turn m a b := ⟨h.os, h.tape, h.output, h.size, fun i hi hn => h.block i hi fun hm => hn (hs i hm)⟩
theorem Turn.of_below {l : List Nat} {a b : World} (h : Below a.heap.size a b) : Turn l a b := ⟨h.os, h.tape, h.output, h.size, fun i hi _ => h.block i hi⟩
theorem Turn.drew {l : List Nat} {a b : World} (h : Turn l a b) : Turn l a b.drew := ⟨h.os, h.tape, h.output, h.size, h.block⟩
theorem Turn.drewN {l : List Nat} {a b : World} (h : Turn l a b) (n : Nat) : Turn l a (b.drewN n) := h.trans (Turn.of_below (ext_drewN (ext_refl _) n))
theorem Turn.alloc {l : List Nat} {a b : World} (h : Turn l a b) (o : Obj) : Turn l a (b.alloc o) := h.trans (Turn.of_below (ext_alloc (ext_refl _) o))
theorem Turn.setCell {l : List Nat} {a b : World} (h : Turn l a b) {p : Addr} (hp : p.block ∈ l ∨ a.heap.size ≤ p.block) (u : Value) : Turn l a (b.setCell p u) :=
  ⟨h.os, h.tape, h.output, Nat.le_trans h.size (by simp [World.setCell]), fun i hi hn => by
    rw [Below.heap_setCell _ _ _ _ (by rintro rfl; rcases hp with hp | hp; exact hn hp; omega)]
    exact h.block i hi hn⟩
theorem Turn.below {l : List Nat} {a b : World} (h : Turn l a b) {B : Nat} (hl : ∀ x ∈ l, B ≤ x) (hB : B ≤ a.heap.size) : Below B a b :=
  ⟨h.os, h.tape, h.output, h.size, fun k hk => h.block k (by omega) fun hm => by have := hl k hm; omega⟩
theorem Turn.nil {a b : World} (h : Turn [] a b) : Below a.heap.size a b := h.below (by simp) (Nat.le_refl _)
theorem Turn.cell {l : List Nat} {a b : World} (h : Turn l a b) {k o : Nat} {v : Value} (hn : k ∉ l) (hc : a.cell? ⟨k, o, none⟩ = some v) : b.cell? ⟨k, o, none⟩ = some v := by
  rw [World.cell?_of_block (w := a) (h.block k (lt_of_cell hc) hn)]; exact hc
theorem Turn.blk {l : List Nat} {a b : World} (h : Turn l a b) {k : Nat} {cs : Array Value} {t : TypeId} (hn : k ∉ l) (hc : Blk a k cs t) : Blk b k cs t := by
  unfold Blk; rw [h.block k hc.lt hn]; exact hc
def flatA (rows : List (List Value)) : Array Value := rows.flatten.toArray
theorem flat_get {m : Nat} : ∀ {rows : List (List Value)}, (∀ r ∈ rows, r.length = m) → ∀ (i k : Nat) (hi : i < rows.length), k < m → rows.flatten[i * m + k]? = (rows[i])[k]?
  | [], _, i, k, hi, _ => by simp at hi
  | r :: rs, h, 0, k, hi, hk => by
    have hr := h r (by simp)
    simp only [List.flatten_cons, Nat.zero_mul, Nat.zero_add, List.getElem_cons_zero]
    rw [List.getElem?_append_left (by omega)]
  | r :: rs, h, i + 1, k, hi, hk => by
    have hr := h r (by simp)
    simp only [List.flatten_cons, List.getElem_cons_succ]
    rw [List.getElem?_append_right (by rw [hr, Nat.succ_mul]; omega), hr]
    have e : (i + 1) * m + k - m = i * m + k := by rw [Nat.succ_mul]; omega
    rw [e]
    exact flat_get (fun x hx => h x (by simp [hx])) i k (by simpa using hi) hk
theorem flat_set {m : Nat} : ∀ {rows : List (List Value)}, (∀ r ∈ rows, r.length = m) → ∀ (i k : Nat) (v : Value), i < rows.length → k < m → rows.flatten.set (i * m + k) v = (rows.modify i (fun r => r.set k v)).flatten
  | [], _, i, k, v, hi, _ => by simp at hi
  | r :: rs, h, 0, k, v, hi, hk => by
    have hr := h r (by simp)
    simp only [List.flatten_cons, Nat.zero_mul, Nat.zero_add, List.modify_zero_cons]
    rw [List.set_append_left _ _ (by omega)]
  | r :: rs, h, i + 1, k, v, hi, hk => by
    have hr := h r (by simp)
    simp only [List.flatten_cons, List.modify_succ_cons]
    rw [List.set_append_right _ _ (by rw [hr, Nat.succ_mul]; omega), hr]
    have e : (i + 1) * m + k - m = i * m + k := by rw [Nat.succ_mul]; omega
    rw [e, flat_set (fun x hx => h x (by simp [hx])) i k v (by simpa using hi) hk]
theorem flatA_get {m : Nat} {rows : List (List Value)} (h : ∀ r ∈ rows, r.length = m) (i k : Nat) (hi : i < rows.length) (hk : k < m) : (flatA rows)[i * m + k]? = (rows[i])[k]? := by
  unfold flatA; rw [List.getElem?_toArray]; exact flat_get h i k hi hk
theorem flatA_set {m : Nat} {rows : List (List Value)} (h : ∀ r ∈ rows, r.length = m) (i k : Nat) (v : Value) (hi : i < rows.length) (hk : k < m) : (flatA rows).setIfInBounds (i * m + k) v = flatA (rows.modify i (fun r => r.set k v)) := by
  unfold flatA; rw [List.setIfInBounds_toArray, flat_set h i k v hi hk]
theorem modify_len {m : Nat} {rows : List (List Value)} (h : ∀ r ∈ rows, r.length = m) (i : Nat) (f : List Value → List Value) (hf : ∀ r, (f r).length = r.length) : ∀ r ∈ rows.modify i f, r.length = m := by
  intro r hr
  obtain ⟨j, hj, rfl⟩ := List.mem_iff_getElem.1 hr
  rw [List.getElem_modify]
  have hj' : j < rows.length := by simpa using hj
  split
  · rw [hf]; exact h _ (List.getElem_mem hj')
  · exact h _ (List.getElem_mem hj')
theorem modify_modify (rows : List (List Value)) (i : Nat) (f g : List Value → List Value) : (rows.modify i f).modify i g = rows.modify i (fun r => g (f r)) := by
  apply List.ext_getElem (by simp)
  intro j h1 h2
  simp only [List.getElem_modify]
  split <;> rfl
theorem modify_is_set (rows : List (List Value)) (i : Nat) (f : List Value → List Value) (hi : i < rows.length) {r : List Value} (h : f rows[i] = r) : rows.modify i f = rows.set i r := by
  apply List.ext_getElem (by simp)
  intro j h1 h2
  simp only [List.getElem_modify, List.getElem_set]
  split
  · rename_i e; subst e; exact h
  · rfl
end Go.Proofs.YtnblhodhkifeeaaGreatDoor
/-
  The builtin copy of rows whose elements have m cells each, into a row that is known whole. Said of any program. Nothing of the program.
-/
namespace Go.Proofs.YtnblhodhkifeeaaGreatDoor
set_option linter.unusedVariables false
open Go Go.RowKit
theorem run_copy_rows {P : Program} (m : Nat) (w : World) (dT sT ty elem : TypeId) (g o dLen dCap : Nat) (a : Addr) (sLen sCap : Nat) (cur : Array Value) (t : TypeId) (cs : List Value) (k : Nat)
    (hu : P.underlying dT = some (.slice elem)) (hs : (P.info? elem).map (·.size) = some m)
    (hg : w.heap[g]? = some (.cells cur t (0, 0))) (hk : Nat.min sLen dLen = k) (hn : cs.length = k * m)
    (hsrc : ∀ j v, cs[j]? = some v → w.cell? (a.add j) = some v) (hfit : o + cs.length ≤ cur.size) (h1 : ∀ v ∈ cs, v.oneCell' = true) :
    (Builtin.copy_ #[dT, sT] ty #[.slice (some ⟨g, o, none⟩) dLen dCap, .slice (some a) sLen sCap]).run P w =
      .ok (goInt k) (w.setRow g (cur.toList.take o ++ cs ++ cur.toList.drop (o + cs.length)).toArray) := by
  have hl := run_loadCells_list (P := P) w a cs hsrc
  have hst := run_storeCells_at P g o t cs 0 cur w hg (by simpa using hfit) h1
  rw [hn] at hl
  cases hq : P.info? elem with
  | none => simp [hq] at hs
  | some i =>
    have hi : i.size = m := by simpa [hq] using hs
    simp [Builtin.copy_, run_underlying hu, Builtin.lenOf, Builtin.firstCells, sizeOf, typeInfo, hq, hi, hk, hl, hst]
theorem wpList_copy_rows {P : Program} (m : Nat) {w : World} {ops : Array Oper} {rest : List Oper} {o : Oper} {a : Act} {Q : Exit → Act → World → Prop} (hgd : o.guard = none) (d s : Operand) (dT sT : TypeId)
    (ho : o.op = .call { callee := .builtin .copy, args := #[d, s], argTypes := #[dT, sT] }) (elem : TypeId) (hu : P.underlying dT = some (.slice elem)) (hsz : (P.info? elem).map (·.size) = some m)
    (dLen dCap sLen sCap : Nat) (g off : Nat) (ad : Addr) (hd : a.eval d = .slice (some ⟨g, off, none⟩) dLen dCap) (hs : a.eval s = .slice (some ad) sLen sCap)
    (cur : List Value) (t : TypeId) (hg : w.heap[g]? = some (.cells cur.toArray t (0, 0))) (cs : List Value) (k : Nat) (hk : Nat.min sLen dLen = k) (hn : cs.length = k * m)
    (hsrc : ∀ j v, cs[j]? = some v → w.cell? (ad.add j) = some v)
    (hfit : off + cs.length ≤ cur.length) (h1 : ∀ v ∈ cs, v.oneCell' = true) (B : Nat) (w0 : World) (hb : Below B w0 w) (hBg : B ≤ g)
    (h : ∀ w', Hid (Blk w' g (splice cur off cs).toArray t) → Below B w0 w' → wpList P ops Q rest (a.put o.dst (goInt k)) w') :
    wpList P ops Q (o :: rest) a w := by
  refine wpList_plain hgd fun K hK => ?_
  have hrun := run_copy_rows (P := P) m w dT sT o.type elem g off dLen dCap ad sLen sCap cur.toArray t cs k hu hsz hg hk hn hsrc (by simpa using hfit) h1
  unfold Oper.wp
  simp [execOp, ho, resolve, invoke, builtin, hd, hs, hrun, Result.andThen]
  exact hK _ _ (h _ (show _ = _ by simpa [splice] using setRow_heap w g _ _ t _ hg) (below_setRow hb hBg _))
end Go.Proofs.YtnblhodhkifeeaaGreatDoor
/-
  append(b, s...) of a string's bytes onto bytes that are owned. Of any program.
-/
namespace Go.Proofs.YtnblhodhkifeeaaGreatDoor
set_option linter.unusedVariables false
open Go Go.RowKit
section
variable {P : Program} (w : World)
def bytesL (s : ByteArray) : List Value := s.data.toList.map fun b => Value.int .u8 b.toNat
theorem bytesL_len (s : ByteArray) : (bytesL s).length = s.size := by simp [bytesL]
theorem bytesL_one (s : ByteArray) : ∀ u ∈ bytesL s, u.oneCell' = true := by
  intro u hu
  obtain ⟨b, -, rfl⟩ := List.mem_map.1 hu
  rfl
theorem run_first_str (s : ByteArray) (size : Nat) : (Builtin.firstCells size s.size (.string s)).run P w = .ok (bytesL s).toArray w := by
  have hx : ((s.extract 0 s.size).data.map fun b => Value.int .u8 (b.toNat : Int)) = (bytesL s).toArray := by
    rw [ByteArray.extract_zero_size]
    unfold bytesL
    apply Array.ext'
    simp
  simp only [Builtin.firstCells, Sem.run_pure]
  rw [hx]
theorem run_append_str (base : Nat) (t u ty e : TypeId) (i : TypeInfo) (z : Value) (bytes : Nat) (ht : P.underlying t = some (.slice e)) (hu : P.underlying u = some .string) (hi : P.info? e = some i) (hz : i.zero = some z)
    (hsize : i.size = 1) (hby : i.bytes = bytes) (hzs : z.cells.size = 1)
    (v : Value) (n : Nat) (xs : List Value) (hown : w.ownsRow base e 1 v n xs) (s : ByteArray) (h0 : 0 < s.size)
    (h63 : n + s.size ≤ maxLen) (hbytes : (n + s.size) * bytes ≤ 140737488355328) (hbase : base ≤ w.heap.size) :
    ∃ v' w', (Builtin.append_ #[t, u] ty #[v, .string s]).run P w = .ok v' w' ∧ w'.ownsRow base e 1 v' (n + s.size) (xs ++ bytesL s) ∧ w.grownBy w' v.ownBlock ∧ (v'.ownBlock = v.ownBlock ∨ v'.ownBlock = some w.heap.size) := by
  subst hby
  have hm : s.size ≠ 0 := by omega
  have hsmall : n + s.size ≤ 9223372036854775807 := by simp only [maxLen] at h63; omega
  have hbl := bytesL_len s
  have hlen : (xs ++ bytesL s).length = (n + s.size) * 1 := by rw [List.length_append, hown.1, hbl]; omega
  have grown : ∀ (old : Nat), old < n + s.size → ∀ (row : Option Nat),
      (w.drew.alloc (.cells (xs.toArray ++ (bytesL s).toArray ++ Builtin.zeroCells z.cells (grownCap w (n + s.size) old e - (n + s.size))) e)).ownsRow base e 1
        (.slice (some ⟨w.heap.size, 0, none⟩) (n + s.size) (grownCap w (n + s.size) old e)) (n + s.size) (xs ++ bytesL s) ∧
      w.grownBy (w.drew.alloc (.cells (xs.toArray ++ (bytesL s).toArray ++ Builtin.zeroCells z.cells (grownCap w (n + s.size) old e - (n + s.size))) e)) row := by
    intro old ho row
    have hge := grownCap_ge w (n + s.size) old e
    have hcm : grownCap w (n + s.size) old e ≤ maxLen := grownCap_le_maxLen w (n + s.size) old e h63
    refine ⟨⟨hlen, .inr ⟨w.heap.size, _, _, rfl, hbase, heap_alloc_new w.drew _, hge, hcm, ?_, ?_⟩⟩, ⟨rfl, rfl, rfl, by simp, fun k hk _ => by first | exact Go.heap_alloc_old w.drew _ k hk | exact heap_alloc_old w.drew _ hk⟩⟩
    · have hx1 := hown.1
      simp only [Array.size_append, List.size_toArray, size_zeroCells, hzs, hbl]
      omega
    · simp only [Array.toList_append, List.append_assoc]
      rw [← List.append_assoc, ← hlen]
      exact List.take_left
  have hfs := fun (W : World) => run_first_str (P := P) W s 1
  rcases hown.2 with ⟨rfl, rfl⟩ | ⟨g, cap, cur, rfl, hbg, hg, hnc, hcm, hcs, htake⟩
  · have hx : xs = [] := List.eq_nil_of_length_eq_zero (by simpa using hown.1)
    subst hx
    have hgr := grown 0 (by omega) (Value.ownBlock (.slice none 0 0))
    have hr : (Builtin.append_ #[t, u] ty #[.slice none 0 0, .string s]).run P w = .ok (.slice (some ⟨w.heap.size, 0, none⟩) s.size (grownCap w s.size 0 e)) (w.drew.alloc (.cells ((bytesL s).toArray ++ Builtin.zeroCells z.cells (grownCap w s.size 0 e - s.size)) e)) := by
      have h63' : ¬ (9223372036854775807 < (s.size : Int)) := by omega
      have h48' : ¬ (281474976710656 < Builtin.nextslicecap s.size 0 * i.bytes) := by rw [nextslicecap_zero h0]; simp only [Nat.zero_add] at hbytes; omega
      simp [Builtin.append_, run_underlying ht, run_underlying hu, sizeOf, typeInfo, zeroValue, hi, hz, hsize, Builtin.lenOf, hm, h63', h48', Question.forced, newRow, grownCap, hfs, run_firstCells_none]
    simp only [Nat.zero_add, List.nil_append, Array.empty_append] at hgr ⊢
    exact ⟨_, _, hr, hgr.1, hgr.2, Or.inr rfl⟩
  · by_cases hroom : n + s.size ≤ cap
    · have hfit : n * 1 + (bytesL s).length ≤ cur.size := by rw [hbl, hcs]; omega
      have hst := run_storeCells_at P g (n * 1) e (bytesL s) 0 cur w hg (by simpa using hfit) (bytesL_one s)
      simp only [Nat.add_zero] at hst
      have hr : (Builtin.append_ #[t, u] ty #[.slice (some ⟨g, 0, none⟩) n cap, .string s]).run P w = .ok (.slice (some ⟨g, 0, none⟩) (n + s.size) cap) (w.setRow g (cur.toList.take (n * 1) ++ bytesL s ++ cur.toList.drop (n * 1 + (bytesL s).length)).toArray) := by
        simp [Builtin.append_, run_underlying ht, run_underlying hu, sizeOf, typeInfo, hi, hsize, Builtin.lenOf, hroom, hfs, Addr.add_lit] at hst ⊢
        simp [hst]
      refine ⟨_, _, hr, ⟨hlen, .inr ⟨g, cap, _, rfl, hbg, setRow_heap w g cur _ e _ hg, hroom, hcm, ?_, ?_⟩⟩, ⟨rfl, rfl, rfl, by simp, fun k _ hk => setRow_other w g k _ (fun e => hk (by simp [Value.ownBlock, e]))⟩, Or.inl rfl⟩
      · simp only [List.size_toArray, List.length_append, List.length_take, List.length_drop, Array.length_toList]
        omega
      · rw [htake, ← hlen]
        exact List.take_left
    · have holds : ∀ j u, xs[j]? = some u → w.cell? ((⟨g, 0, none⟩ : Addr).add j) = some u := hown.cells (g := g) rfl
      have hgr := grown cap (by omega) (Value.ownBlock (.slice (some ⟨g, 0, none⟩) n cap))
      have hfo := run_firstCells_some (P := P) w.drew 1 n ⟨g, 0, none⟩ n cap xs hown.1 (by simpa using holds)
      have hr : (Builtin.append_ #[t, u] ty #[.slice (some ⟨g, 0, none⟩) n cap, .string s]).run P w = .ok (.slice (some ⟨w.heap.size, 0, none⟩) (n + s.size) (grownCap w (n + s.size) cap e)) (w.drew.alloc (.cells (xs.toArray ++ (bytesL s).toArray ++ Builtin.zeroCells z.cells (grownCap w (n + s.size) cap e - (n + s.size))) e)) := by
        have hn : ¬ (n + s.size ≤ cap) := hroom
        have h63' : ¬ (9223372036854775807 < ((n : Int) + (s.size : Int))) := by omega
        have h48' : ¬ (281474976710656 < Builtin.nextslicecap (n + s.size) cap * i.bytes) := by have := growslice_fits (need := n + s.size) (old := cap) (bytes := i.bytes) (by omega) hbytes; omega
        simp [Builtin.append_, run_underlying ht, run_underlying hu, sizeOf, typeInfo, zeroValue, hi, hz, hsize, Builtin.lenOf, hn, h63', h48', Question.forced, hfs, hfo, newRow, grownCap]
        try (congr 2; apply Array.ext'; simp [List.append_assoc])
      exact ⟨_, _, hr, hgr.1, hgr.2, Or.inr rfl⟩
end
end Go.Proofs.YtnblhodhkifeeaaGreatDoor
/-
  A range over a function whose iterator keeps state of its own: what comes at the k-th round is known ahead. Said of any program.
-/
namespace Go.Proofs.YtnblhodhkifeeaaGreatDoor
set_option linter.unusedVariables false
open Go Go.RowKit
def goesOn (B : Nat) (Kp : World → World → Prop) (I : World → Prop) (W : World) : Exit → Act → World → Prop
  | .normal, _, W' => KeepsFrom B W W' ∧ Kp W W' ∧ I W'
  | _, _, _ => False
variable {F : Fence} {n : Nat} {P : Program}
end Go.Proofs.YtnblhodhkifeeaaGreatDoor
/-
  A range over a function whose iterator turns cells: blocks of the caller's that are named, and its own, which it chooses at its start. Said of any program.
-/
namespace Go.Proofs.YtnblhodhkifeeaaGreatDoor
set_option linter.unusedVariables false
set_option linter.unusedSimpArgs false
open Go Go.RowKit
def SeqRunsK (F : Fence) (n : Nat) (P : Program) (g : Nat) (lb : Array Value) (rs : List Nat) (encs : Nat → Array Value) (N : Nat) (Kp : List Nat → World → World → Prop) (Fin : World → Prop) (w : World) : Prop :=
  ∀ (l : Nat) (J : List Nat → Nat → World → Prop) (W : World), Below w.heap.size w W → (∀ ks k A B, J ks k A → Turn (rs ++ ks) A B → J ks k B) →
    (∀ ks k W1, J ks k W1 → (∀ x ∈ ks, x < W1.heap.size) → k < N → YieldAt F (n - 1) P l (encs k) W1 fun e W' => e = .returned (.bool true) ∧ J ks (k + 1) W' ∧ Kp ks W1 W') →
    (∀ ks, (∀ x ∈ ks, W.heap.size ≤ x) → J ks 0 W) → CallsIn F n P g (#[.func (.yield l) #[] #[]] ++ lb) W fun e W' => (∃ v, e = .returned v) ∧ (∃ ks, J ks N W') ∧ Fin W'
variable {F : Fence} {n : Nat} {P : Program}
theorem turn_heap {l : List Nat} {A B : World} (h : Turn l A B) {i : Nat} {o : Obj} (hi : A.heap[i]? = some o) (hn : i ∉ l) : B.heap[i]? = some o :=
  (h.block i (Array.getElem?_eq_some_iff.1 hi).1 hn).trans hi
theorem wpIn_range_runsK {g : Operand} {ps : Array Tmp} {assign body : Code} {Q : Exit → Act → World → Prop} {a : Act} {w : World}
    (hro : F.round = none) (h1 : 1 ≤ n) {gf : Nat} {lb : Array Value} (hg : a.eval g = .func (.func gf) #[] lb) (hFg : F.fn gf) (eg : ∀ args w, (callFunc gf args).run P w = .ok (.enter gf args) w)
    {rs : List Nat} {encs : Nat → Array Value} {Kp : List Nat → World → World → Prop} {Fin : World → Prop} {N : Nat} (hseq : SeqRunsK F (n - 1) P gf lb rs encs N Kp Fin w)
    (hrs : ∀ x ∈ rs, x < w.heap.size)
    (hKt : ∀ {ks} {A B C : World}, Kp ks A B → Kp ks B C → Kp ks A C) (hKb : ∀ ks (W : World) (l : Nat) (o o' : Obj), w.heap.size ≤ l → W.heap[l]? = some o → o.isCells = false → o.isWalk = false → Kp ks W (W.putObj l o'))
    (hKn : ∀ ks (A B : World), w.heap.size ≤ A.heap.size → Below A.heap.size A B → Kp ks A B) (hps : ∀ k, (encs k).size = ps.size)
    (hFin : ∀ (W : World) (l : Nat) (o o' : Obj), Fin W → w.heap.size ≤ l → W.heap[l]? = some o → o.isCells = false → Fin (W.putObj l o'))
    (I : List Nat → Nat → World → Prop)
    (hI1 : ∀ ks k A B, (∀ x ∈ ks, w.heap.size ≤ x) → I ks k A → Turn (rs ++ ks) A B → I ks k B)
    (hI2 : ∀ ks k (W : World) (l : Nat) (o o' : Obj), I ks k W → w.heap.size ≤ l → W.heap[l]? = some o → o.isCells = false → I ks k (W.putObj l o'))
    (h0 : ∀ ks W, (∀ x ∈ ks, w.heap.size ≤ x) → Below w.heap.size w W → I ks 0 W)
    (As : Nat → Act → World → Prop) (hAs : ∀ k a' (W : World) (l : Nat) (o o' : Obj), As k a' W → w.heap.size ≤ l → W.heap[l]? = some o → o.isCells = false → As k a' (W.putObj l o'))
    (hassign : ∀ (l k : Nat) (W : World) (K : Act → World → Prop), (∀ a' W', Below W.heap.size W W' → As k a' W' → K a' W') →
      assign.wpIn (F.inRound l) (n - 1 - 1) P (Exit.then K (fun _ _ _ => False)) { tmps := (ps.zip (encs k)).foldl (fun t (p, v) => t.setIfInBounds p v) a.tmps, defers := [] } W)
    (hbody : ∀ (l : Nat) ks k a' (W : World), (∀ x ∈ ks, w.heap.size ≤ x) → (∀ x ∈ ks, x < W.heap.size) → I ks k W → As k a' W → k < N → body.wpIn (F.inRound l) (n - 1 - 1) P (goesOn w.heap.size (Kp ks) (I ks (k + 1)) W) a' W)
    (hdone : ∀ (D : Nat) ks (W : World), w.heap.size ≤ D → I ks N W → Fin W → W.heap[D]? = some (.deferred (some [])) → Q .normal { a with defers := { target := .collected D, args := #[] } :: a.defers } W) :
    (Code.rangeFunc g ps assign body).wpIn F n P Q a w := by
  refine wpIn_rangeFunc fun fn hfn => ?_
  rw [hro]
  generalize hR : (fun st : LoopState => (fun pe : Option Code => ({ state := st, pending := pe, fn, tmps := a.tmps, params := ps, assign, body, defers := w.heap.size } : Loop))) = rc
  have hr0 : rc .ready none = { state := .ready, pending := none, fn, tmps := a.tmps, params := ps, assign, body, defers := w.heap.size } := by rw [← hR]
  generalize hW1 : (w.alloc (.deferred (some []))).alloc (.loop (rc .ready none)) = W1
  have rec1 : W1.heap[w.heap.size + 1]? = some (.loop (rc .ready none)) := by
    have h := World.alloc_heap_new (w.alloc (.deferred (some []))) (.loop (rc .ready none))
    rw [World.size_alloc] at h
    rw [← hW1]; exact h
  have def1 : W1.heap[w.heap.size]? = some (.deferred (some [])) := by
    rw [← hW1]
    exact (Below.heap_alloc _ _ _ (by rw [World.size_alloc]; omega)).trans (World.alloc_heap_new w _)
  have size1 : W1.heap.size = w.heap.size + 2 := by rw [← hW1, World.size_alloc, World.size_alloc]
  have below1 : Below w.heap.size w W1 := by
    rw [← hW1]
    exact ((Below.refl _ w).alloc (Nat.le_refl _) _).alloc (by simp) _
  refine ⟨w.heap.size + 1, [{ target := .collected w.heap.size, args := #[] }], W1, { target := .fn (.func gf) lb, args := #[.func (.yield (w.heap.size + 1)) #[] #[]] }, W1, gf, #[.func (.yield (w.heap.size + 1)) #[] #[]] ++ lb, W1, ?_, ?_, ?_, ?_, fun _ => h1, ?_⟩
  · rw [← hW1, hr0]; exact run_enterLoop_outer _ _ _ _ _
  · simp only [resolve, hg]; simp [go_sem]
  · intro f' hf'
    simp [Target.leads] at hf'
    subst hf'; exact hFg
  · simp [invoke, go_sem, eg]
  · generalize hJ : (fun (ks : List Nat) (k : Nat) (W : World) => I ks k W ∧ (∀ x ∈ ks, w.heap.size + 2 ≤ x) ∧ W.heap[w.heap.size + 1]? = some (.loop (rc .ready none)) ∧ W.heap[w.heap.size]? = some (.deferred (some [])) ∧ w.heap.size ≤ W.heap.size) = J
    have toJ : ∀ {ks k W}, (I ks k W ∧ (∀ x ∈ ks, w.heap.size + 2 ≤ x) ∧ W.heap[w.heap.size + 1]? = some (.loop (rc .ready none)) ∧ W.heap[w.heap.size]? = some (.deferred (some [])) ∧ w.heap.size ≤ W.heap.size) → J ks k W := fun h => by rw [← hJ]; exact h
    have ofJ : ∀ {ks k W}, J ks k W → (I ks k W ∧ (∀ x ∈ ks, w.heap.size + 2 ≤ x) ∧ W.heap[w.heap.size + 1]? = some (.loop (rc .ready none)) ∧ W.heap[w.heap.size]? = some (.deferred (some [])) ∧ w.heap.size ≤ W.heap.size) := fun h => by rw [← hJ] at h; exact h
    have turns : ∀ ks k A B, J ks k A → Turn (rs ++ ks) A B → J ks k B := by
      intro ks k A B hj ht
      obtain ⟨j1, j2, j3, j4, j5⟩ := ofJ hj
      have hn : ∀ x, w.heap.size ≤ x → x < w.heap.size + 2 → x ∉ rs ++ ks := by
        intro x hx1 hx2 hm
        rcases List.mem_append.1 hm with h | h
        · have := hrs x h; omega
        · have := j2 x h; omega
      exact toJ ⟨hI1 ks k A B (fun x hx => by have := j2 x hx; omega) j1 ht, j2, turn_heap ht j3 (hn _ (by omega) (by omega)), turn_heap ht j4 (hn _ (by omega) (by omega)), Nat.le_trans j5 ht.size⟩
    refine (hseq (w.heap.size + 1) J W1 below1 turns ?_ (fun ks hks => toJ ⟨h0 ks W1 (fun x hx => by have := hks x hx; omega) below1, fun x hx => by have := hks x hx; omega, rec1, def1, by omega⟩)).mono ?_
    · intro ks k W hs hkb hk
      obtain ⟨s1, sk, s2, s3, s5⟩ := ofJ hs
      have hy := run_yield (P := P) (args := encs k) s2 (by rw [hr0]; exact hps k)
      rw [hr0] at hy
      refine ⟨fn, _, assign, body, hy, roundIn_of_wpIn hfn (hassign _ k W _ fun a' Wa hba has => ?_)⟩
      have s2a : Wa.heap[w.heap.size + 1]? = some (.loop (rc .ready none)) := (hba.block _ (Array.getElem?_eq_some_iff.1 s2).1).trans s2
      have s3a : Wa.heap[w.heap.size]? = some (.deferred (some [])) := (hba.block _ (Array.getElem?_eq_some_iff.1 s3).1).trans s3
      have s1a : I ks k Wa := hI1 ks k W Wa (fun x hx => by have := sk x hx; omega) s1 (Turn.of_below hba)
      have kpa : Kp ks W Wa := hKn ks W Wa s5 hba
      refine ⟨_, run_beginRound s2a (by rw [hr0]), ?_⟩
      generalize hWb : Wa.putObj (w.heap.size + 1) (.loop { rc .ready none with state := .busy }) = Wb
      have lt2 : w.heap.size + 1 < Wa.heap.size := (Array.getElem?_eq_some_iff.1 s2a).1
      have recb : Wb.heap[w.heap.size + 1]? = some (.loop { rc .ready none with state := .busy }) := by rw [← hWb]; exact World.putObj_heap_same lt2
      have defb : Wb.heap[w.heap.size]? = some (.deferred (some [])) := by rw [← hWb]; exact (World.putObj_heap_other (by omega)).trans s3a
      have kpb : Kp ks Wa Wb := by rw [← hWb]; exact hKb _ _ _ _ _ (by omega) s2a rfl rfl
      have ib : I ks k Wb := by rw [← hWb]; exact hI2 _ _ _ _ _ _ s1a (by omega) s2a rfl
      have asb : As k a' Wb := by rw [← hWb]; exact hAs _ _ _ _ _ _ has (by omega) s2a rfl
      have hsb : Wb.heap.size = Wa.heap.size := by rw [← hWb]; simp [World.putObj]
      refine wpIn_mono (hbody _ ks k a' Wb (fun x hx => by have := sk x hx; omega) (fun x hx => by have := hkb x hx; have := hba.size; omega) ib asb hk) ?_
      intro e a3 W3 hp
      cases e with
      | normal =>
        obtain ⟨k3, kp3, i3⟩ := hp
        have rec3 := k3.same _ _ (by omega) recb rfl
        have def3 := k3.same _ _ (Nat.le_refl _) defb rfl
        have lt3 : w.heap.size + 1 < W3.heap.size := (Array.getElem?_eq_some_iff.1 rec3).1
        have hend := run_endRound (P := P) none rec3
        refine ⟨.bool true, W3.putObj (w.heap.size + 1) (.loop (rc .ready none)), ?_, rfl, toJ ⟨hI2 _ _ _ _ _ _ i3 (by omega) rec3 rfl, sk, World.putObj_heap_same lt3, (World.putObj_heap_other (by omega)).trans def3, by
          have hh : (W3.putObj (w.heap.size + 1) (.loop (rc .ready none))).heap[w.heap.size + 1]? = some (.loop (rc .ready none)) := World.putObj_heap_same lt3
          have := (Array.getElem?_eq_some_iff.1 hh).1
          omega⟩, hKt (hKt kpa (hKt kpb kp3)) (hKb _ _ _ _ _ (by omega) rec3 rfl rfl)⟩
        rw [hr0] at hend ⊢
        exact hend
      | _ => exact hp.elim
    · rintro e W2 ⟨⟨v, rfl⟩, ⟨ks, hs⟩, hf⟩
      obtain ⟨s1, sk, s2, s3, s5⟩ := ofJ hs
      have hend := run_endLoop (P := P) s2 (by rw [hr0]; simp)
      refine ⟨none, W2.putObj (w.heap.size + 1) (.loop { rc .ready none with state := .exhausted }), ?_, hdone _ ks _ (Nat.le_refl _) (hI2 _ _ _ _ _ _ s1 (by omega) s2 rfl) (hFin _ _ _ _ hf (by omega) s2 rfl) ((World.putObj_heap_other (by omega)).trans s3)⟩
      rw [hr0] at hend ⊢
      exact hend
theorem wpIn_range_runsKb {g : Operand} {ps : Array Tmp} {assign body : Code} {Q : Exit → Act → World → Prop} {a : Act} {w : World}
    (hro : F.round = none) (h1 : 1 ≤ n) {gf : Nat} {lb : Array Value} (hg : a.eval g = .func (.func gf) #[] lb) (hFg : F.fn gf) (eg : ∀ args w, (callFunc gf args).run P w = .ok (.enter gf args) w)
    {rs : List Nat} {encs : Nat → Array Value} {Kp : List Nat → World → World → Prop} {Fin : World → Prop} {N : Nat} (hseq : SeqRunsK F (n - 1) P gf lb rs encs N Kp Fin w)
    (hrs : ∀ x ∈ rs, x < w.heap.size)
    (hKt : ∀ {ks} {A B C : World}, Kp ks A B → Kp ks B C → Kp ks A C) (hKb : ∀ ks (W : World) (l : Nat) (o o' : Obj), w.heap.size ≤ l → W.heap[l]? = some o → o.isCells = false → o.isWalk = false → Kp ks W (W.putObj l o'))
    (hKn : ∀ ks (A B : World), w.heap.size ≤ A.heap.size → Below A.heap.size A B → Kp ks A B) (hps : ∀ k, (encs k).size = ps.size)
    (hFin : ∀ (W : World) (l : Nat) (o o' : Obj), Fin W → w.heap.size ≤ l → W.heap[l]? = some o → o.isCells = false → Fin (W.putObj l o'))
    (I : List Nat → Nat → World → Prop)
    (hI1 : ∀ ks k A B, (∀ x ∈ ks, w.heap.size ≤ x) → I ks k A → Turn (rs ++ ks) A B → I ks k B)
    (hI2 : ∀ ks k (W : World) (l : Nat) (o o' : Obj), I ks k W → w.heap.size ≤ l → W.heap[l]? = some o → o.isCells = false → I ks k (W.putObj l o'))
    (h0 : ∀ ks W, (∀ x ∈ ks, w.heap.size ≤ x) → Below w.heap.size w W → I ks 0 W)
    (cs : Nat → Array Value) (t : TypeId) (a₁ : Nat → Nat → Act)
    (hassign : ∀ (l k : Nat) (W : World) (K : Act → World → Prop) (eb : Nat), W.heap.size = eb → K (a₁ eb k) (W.alloc (.cells (cs k) t)) →
      assign.wpIn (F.inRound l) (n - 1 - 1) P (Exit.then K (fun _ _ _ => False)) { tmps := (ps.zip (encs k)).foldl (fun t (p, v) => t.setIfInBounds p v) a.tmps, defers := [] } W)
    (hbody : ∀ (l : Nat) ks k eb (W : World), (∀ x ∈ ks, w.heap.size ≤ x) → (∀ x ∈ ks, x < W.heap.size) → I ks k W → Blk W eb (cs k) t → k < N → body.wpIn (F.inRound l) (n - 1 - 1) P (goesOn w.heap.size (Kp ks) (I ks (k + 1)) W) (a₁ eb k) W)
    (hdone : ∀ (D : Nat) ks (W : World), w.heap.size ≤ D → I ks N W → Fin W → W.heap[D]? = some (.deferred (some [])) → Q .normal { a with defers := { target := .collected D, args := #[] } :: a.defers } W) :
    (Code.rangeFunc g ps assign body).wpIn F n P Q a w :=
  wpIn_range_runsK hro h1 hg hFg eg hseq hrs hKt hKb hKn hps hFin I hI1 hI2 h0 (fun k a' W => ∃ eb, a' = a₁ eb k ∧ Blk W eb (cs k) t)
    (fun k a' W l o o' ⟨eb, h1, h2⟩ hl ho hc => ⟨eb, h1, by
      by_cases he : eb = l
      · subst he
        have h3 : W.heap[eb]? = some (.cells (cs k) t) := h2
        rw [h3] at ho; cases ho; cases hc
      · exact (World.putObj_heap_other he).trans h2⟩)
    (fun l k W K hK => hassign l k W K _ rfl (hK _ _ (ext_alloc (ext_refl _) _) ⟨_, rfl, Blk.new _ _ _⟩))
    (fun l ks k a' W hks hkb hI ⟨eb, h1, h2⟩ hk => by subst h1; exact hbody l ks k eb W hks hkb hI h2 hk) hdone
theorem blk_putObj {W : World} {b l : Nat} {cs : Array Value} {t : TypeId} {o o' : Obj} (h : Blk W b cs t) (ho : W.heap[l]? = some o) (hc : o.isCells = false) : Blk (W.putObj l o') b cs t := by
  by_cases he : b = l
  · subst he
    have h3 : W.heap[b]? = some (.cells cs t) := h
    rw [h3] at ho; cases ho; cases hc
  · exact (World.putObj_heap_other he).trans h
def KeepC (ks : List Nat) (A B : World) : Prop := ∀ x ∈ ks, ∀ o : Obj, A.heap[x]? = some o → o.isCells = true → B.heap[x]? = some o
def KeepBC (n₀ : Nat) (fs : List Nat) (ks : List Nat) (A B : World) : Prop := Below n₀ A B ∧ KeepC (fs ++ ks) A B
theorem keepBC_t {n₀ : Nat} {fs ks : List Nat} {A B C : World} (h : KeepBC n₀ fs ks A B) (k : KeepBC n₀ fs ks B C) : KeepBC n₀ fs ks A C := ⟨h.1.trans k.1, fun x hx o ho hc => k.2 x hx o (h.2 x hx o ho hc) hc⟩
theorem keepBC_b {n₀ : Nat} {fs ks : List Nat} {w : World} (hn : n₀ ≤ w.heap.size) (W : World) (l : Nat) (o o' : Obj) (hl : w.heap.size ≤ l) (h : W.heap[l]? = some o) (hc : o.isCells = false) (hw : o.isWalk = false) : KeepBC n₀ fs ks W (W.putObj l o') :=
  ⟨belowK_b hn W l o o' hl h hc hw, fun x hx u hu huc => by
    by_cases he : x = l
    · subst he; rw [h] at hu; cases hu; rw [hc] at huc; cases huc
    · exact (World.putObj_heap_other he).trans hu⟩
theorem keepBC_n {n₀ : Nat} {fs ks : List Nat} {A B : World} (hn : n₀ ≤ A.heap.size) (h : Below A.heap.size A B) : KeepBC n₀ fs ks A B :=
  ⟨h.mono hn, fun x _ o ho _ => (h.block x (Array.getElem?_eq_some_iff.1 ho).1).trans ho⟩
theorem KeepC.blk {ks : List Nat} {A B : World} (h : KeepC ks A B) {b : Nat} (hb : b ∈ ks) {cs : Array Value} {t : TypeId} (hB : Blk A b cs t) : Blk B b cs t := h b hb _ hB rfl
theorem wpListIn_append_run {ops : Array Oper} {rest : List Oper} {o : Oper} {a : Act} {w w' : World} {Q : Exit → Act → World → Prop}
    (hg : o.guard = none) (s x : Operand) (t : TypeId) (vs vx v' : Value) (hop : o.op = Op.call { callee := Callee.builtin Builtin.append, args := #[s, x], argTypes := #[t, t] })
    (hs : a.eval s = vs) (hx : a.eval x = vx) (hrun : (Builtin.append_ #[t, t] o.type #[vs, vx]).run P w = .ok v' w') (hK : wpListIn F n P ops Q rest (a.put o.dst v') w') : wpListIn F n P ops Q (o :: rest) a w := by
  refine wpListIn_plain hg fun K hK' => ?_
  unfold Oper.wpIn
  refine ⟨?_, ?_⟩
  · simp [Oper.about, hop, resolve, Target.leads, Sem.run_pure]
  · rw [Oper.semAt_plain F _ _ (by rw [hop]; intro c hc'; cases hc')]
    simp [execOp, hop, resolve, invoke, builtin, hs, hx, hrun, Result.andThen]
    exact hK' _ _ hK
end Go.Proofs.YtnblhodhkifeeaaGreatDoor
/-
  The frame of a law's row, said once: where the call returns true and nothing that was there has turned, the row's post holds. Nothing of the program.
-/
namespace Go.Proofs.YtnblhodhkifeeaaGreatDoor
set_option linter.unusedVariables false
open Go Go.RowKit Go.ChangeShapes Go.WideShapes Go.ChangeAt
theorem stays_all {H : Type} {enc : TypeId × Value → H} {P : Program} {W W' : World} (hl : laidOutB P = true) (hb : Below W.heap.size W W') :
    ∀ {ts : List TypeId} {vs : List Value} {ds : List (DataW H)} {ps : List MemPlace}, (∀ t ∈ ts, P.readableRec t = true ∧ t < P.types.size) →
      DataW.TrodAll enc P W 0 (fun _ => true) true ts vs ds ps → (∀ x ∈ ps, x.block < W.heap.size) → DataW.TrodAll enc P W' 0 (fun b => decide (b < W.heap.size)) true ts vs ds ps
  | [], [], [], ps, _, h, _ => h
  | t :: ts, v :: vs, d :: ds, ps, hr, h, hlt => by
    obtain ⟨p, q, h1, h2, rfl⟩ := h
    exact ⟨p, q, Below.trod hl (hr t (by simp)).1 (hr t (by simp)).2 h1 hb (fun x hx => hlt x (by simp [hx])), stays_all hl hb (fun t ht => hr t (by simp [ht])) h2 (fun x hx => hlt x (by simp [hx])), rfl⟩
theorem law_post {H : Type} {enc : TypeId × Value → H} {P : Program} {f : Func} {s : ChangeSpec} {W W' : World} {args : Array Value} {ds gs : List (DataW H)} {before : List MemPlace} {tb : TypeId}
    (hl : laidOutB P = true) (hr : ∀ t ∈ f.params.toList, P.readableRec t = true ∧ t < P.types.size) (hv : s.vars = []) (hrt : f.resultTypes = #[tb]) (hbool : P.underlying tb = some .bool)
    (hs : (s.fn H (ds ++ gs)).results = [.lit (.bool true)]) (ha : (s.fn H (ds ++ gs)).args = ds) (hvs : (s.fn H (ds ++ gs)).vars = [])
    (hW : DataW.Whole enc P f.params.toList s.vars false W args.toList ds gs before) (hb : Below W.heap.size W W') :
    s.post enc P f false true false false W args (.bool true) W' := by
  have hlt : ∀ x ∈ before, x.block < W.heap.size := fun x hx => hW.lt x hx
  have hW' := hW
  obtain ⟨p, q, hA, hV, rfl, hfz, hnd⟩ := hW
  rw [hv] at hV
  obtain ⟨rfl, rfl⟩ := trodVars_none hV
  refine ⟨ds, [], p ++ [], [], p, [], hW', ?_, ?_, ?_, hb.frame _, fun h => by cases h⟩
  · rw [hs, hrt]
    exact trodAll_cons_mk (shut_bool hbool _) trodAll_mk0
  · rw [ha]
    exact stays_all hl hb hr hA (fun x hx => hlt x (by simp [hx]))
  · rw [hvs, hv]
    exact rfl
end Go.Proofs.YtnblhodhkifeeaaGreatDoor
