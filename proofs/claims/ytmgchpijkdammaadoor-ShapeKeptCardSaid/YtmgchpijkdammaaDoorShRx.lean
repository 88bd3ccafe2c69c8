/-
  The law ShapeRow: what it keeps in memory.
-/
import Derived.Test.YtmgchpijkdammaaDoorShY
import Derived.Test.YtmgchpijkdammaaDoorShRw
import Derived.Test.YtmgchpijkdammaaDoorOw
namespace Go.Proofs.YtmgchpijkdammaaDoor
set_option linter.unusedVariables false
set_option linter.unusedSimpArgs false
open Go Go.RowKit
theorem fineT_ok {T V S : Int} {l : List Ev} (hl : l.length ≤ 2000) (h : fineT T V S l = true) : sizeOk T V S = true ∧ comesS (newS T V S) l = l.length := by
  unfold fineT at h
  rw [decide_eq_true_iff] at h
  rcases checkT_cases T V S l hl with ⟨h1, h2⟩ | ⟨hz, c, h1, h2, h3⟩
  · rw [h1] at h; simp at h
  · rcases h3 with ⟨h3, -⟩ | ⟨h3, h4⟩
    · exact ⟨hz, by omega⟩
    · rw [h4] at h; simp at h
/-- Where all events come each step does. -/
theorem Behind.goes {T V S : Int} {l : List Ev} {i : Nat} {s : Sh} (h : Behind T V S l i s) (hi : i < l.length) (hall : comesS (newS T V S) l = l.length) : ∃ s', stepS s l[i] = some s' := by
  cases hs : stepS s l[i] with
  | some s' => exact ⟨s', rfl⟩
  | none => have := h.bad hi hs; omega
def A6 (f : Nat → Value) : Array Value := #[f 0, f 1, f 2, f 3, f 4, f 5]
def updV (f : Nat → Value) (j : Nat) (x : Value) : Nat → Value := fun i => if i = j then x else f i
theorem A6_get (f : Nat → Value) {j : Nat} (h : j < 6) : (A6 f)[j]? = some (f j) := by
  have : j = 0 ∨ j = 1 ∨ j = 2 ∨ j = 3 ∨ j = 4 ∨ j = 5 := by omega
  rcases this with rfl | rfl | rfl | rfl | rfl | rfl <;> rfl
theorem A6_set (f : Nat → Value) {j : Nat} (h : j < 6) (x : Value) : (A6 f).setIfInBounds j x = A6 (updV f j x) := by
  have : j = 0 ∨ j = 1 ∨ j = 2 ∨ j = 3 ∨ j = 4 ∨ j = 5 := by omega
  rcases this with rfl | rfl | rfl | rfl | rfl | rfl <;> rfl
def ints (l : List Int) : List Value := l.map (Value.int .i64)
theorem ints_len (l : List Int) : (ints l).length = l.length := by simp [ints]
theorem ints_nil {l : List Int} : ints l = [] ↔ l = [] := by simp [ints]
theorem ints_snoc (l : List Int) (x : Int) : ints (l ++ [x]) = ints l ++ [.int .i64 x] := by simp [ints]
theorem ints_get (l : List Int) (j : Nat) (h : j < l.length) : (ints l)[j]? = some (.int .i64 l[j]) := by simp [ints, h]
theorem RowV.mono {w : World} {base base' : Nat} {e : TypeId} {v : Value} {xs : List Value} (h : RowV w base e v xs) (hb : base' ≤ base) : RowV w base' e v xs := by
  obtain ⟨⟨h1, h2⟩, h3⟩ := h
  refine ⟨⟨h1, ?_⟩, h3⟩
  rcases h2 with h2 | ⟨g, cap, cur, a, b, c⟩
  · exact Or.inl h2
  · exact Or.inr ⟨g, cap, cur, a, by omega, c⟩
/-- The worlds of the law: B, B + 1, B + 2 are its three arrays. -/
structure RW (w wr : World) (B : Nat) (S : Int) (a : Option Addr) (len cap : Nat) (cm : Nat → Int) (lk st : Nat → List Int) (lv sv : Nat → Value) : Prop where
  low : Below w.heap.size w wr
  hB : w.heap.size < B
  c : Blk wr B (A6 fun i => .int .i64 (cm i)) 35
  k : Blk wr (B + 1) (A6 lv) 39
  s : Blk wr (B + 2) (A6 sv) 39
  lr : ∀ i, i < 6 → RowV wr (B + 3) 3 (lv i) (ints (lk i))
  sr : ∀ i, i < 6 → RowV wr (B + 3) 3 (sv i) (ints (st i))
  d2 : wr.cell? ⟨w.heap.size, 2, none⟩ = some (.int .i64 S)
  d3 : wr.cell? ⟨w.heap.size, 3, none⟩ = some (.slice a len cap)
variable {w wr wr' : World} {B : Nat} {S : Int} {a : Option Addr} {len cap : Nat} {cm : Nat → Int} {lk st : Nat → List Int} {lv sv : Nat → Value}
theorem RW.below (H : RW w wr B S a len cap cm lk st lv sv) (hb : Below wr.heap.size wr wr') : RW w wr' B S a len cap cm lk st lv sv :=
  ⟨ext_trans H.low hb, H.hB, H.c.below hb, H.k.below hb, H.s.below hb, fun i hi => (H.lr i hi).old hb, fun i hi => (H.sr i hi).old hb, later hb H.d2, later hb H.d3⟩
theorem RW.turn (H : RW w wr B S a len cap cm lk st lv sv) {l : List Nat} (hl : ∀ x ∈ l, B ≤ x ∧ x < B + 3) (hb : Turn l wr wr') : Below w.heap.size w wr' ∧ (∀ i, i < 6 → RowV wr' (B + 3) 3 (lv i) (ints (lk i))) ∧ (∀ i, i < 6 → RowV wr' (B + 3) 3 (sv i) (ints (st i))) ∧
    wr'.cell? ⟨w.heap.size, 2, none⟩ = some (.int .i64 S) ∧ wr'.cell? ⟨w.heap.size, 3, none⟩ = some (.slice a len cap) := by
  have hB := H.hB
  have hnot : w.heap.size ∉ l := fun h => by have := (hl _ h).1; omega
  refine ⟨?_, fun i hi => (H.lr i hi).turn hb (fun k hk => (hl k hk).2), fun i hi => (H.sr i hi).turn hb (fun k hk => (hl k hk).2), hb.cell hnot H.d2, hb.cell hnot H.d3⟩
  have h1 := hb.below (B := w.heap.size) (fun x hx => by have := (hl x hx).1; omega) H.low.size
  exact H.low.trans h1
theorem RW.setC (H : RW w wr B S a len cap cm lk st lv sv) {j : Nat} (hj : j < 6) (x : Int) : RW w (wr.setCell ⟨B, j, none⟩ (.int .i64 x)) B S a len cap (upd cm j x) lk st lv sv := by
  have hT : Turn [B] wr (wr.setCell ⟨B, j, none⟩ (.int .i64 x)) := (Turn.refl _ _).setCell (Or.inl (by simp)) _
  obtain ⟨h1, h2, h3, h4, h5⟩ := H.turn (l := [B]) (by simp) hT
  refine ⟨h1, H.hB, ?_, H.k.set_other _ _ (by simp), H.s.set_other _ _ (by simp), h2, h3, h4, h5⟩
  have := H.c.set j (.int .i64 x)
  rw [A6_set _ hj] at this
  have e : updV (fun i => Value.int .i64 (cm i)) j (.int .i64 x) = fun i => Value.int .i64 (upd cm j x i) := by
    funext i; unfold updV upd; split <;> rfl
  rwa [e] at this
theorem RW.begin (H : RW w wr B S a len cap cm lk st lv sv) {j : Nat} (hj : j < 6) : RW w ((wr.setCell ⟨B + 1, j, none⟩ (.slice none 0 0)).setCell ⟨B + 2, j, none⟩ (.slice none 0 0)) B S a len cap cm (updL lk j []) (updL st j []) (updV lv j (.slice none 0 0)) (updV sv j (.slice none 0 0)) := by
  have hT : Turn [B + 1, B + 2] wr ((wr.setCell ⟨B + 1, j, none⟩ (.slice none 0 0)).setCell ⟨B + 2, j, none⟩ (.slice none 0 0)) := ((Turn.refl _ _).setCell (Or.inl (by simp)) _).setCell (Or.inl (by simp)) _
  obtain ⟨h1, h2, h3, h4, h5⟩ := H.turn (l := [B + 1, B + 2]) (by simp) hT
  refine ⟨h1, H.hB, (H.c.set_other _ _ (by simp)).set_other _ _ (by simp), ?_, ?_, fun i hi => ?_, fun i hi => ?_, h4, h5⟩
  · have := (H.k.set j (.slice none 0 0)).set_other ⟨B + 2, j, none⟩ (.slice none 0 0) (by simp)
    rwa [A6_set _ hj] at this
  · have := (H.s.set_other ⟨B + 1, j, none⟩ (.slice none 0 0) (by simp)).set j (.slice none 0 0)
    rwa [A6_set _ hj] at this
  · unfold updL updV
    by_cases hij : i = j
    · rw [if_pos hij, if_pos hij]; exact RowV.nil _ _ _
    · rw [if_neg hij, if_neg hij]; exact h2 i hi
  · unfold updL updV
    by_cases hij : i = j
    · rw [if_pos hij, if_pos hij]; exact RowV.nil _ _ _
    · rw [if_neg hij, if_neg hij]; exact h3 i hi
theorem RW.locks (H : RW w wr B S a len cap cm lk st lv sv) {j : Nat} (hj : j < 6) {v9 : Value} {x : Int} (hT : Turn [B + 1] wr wr') (hk : Blk wr' (B + 1) ((A6 lv).setIfInBounds j v9) 39) (hr : RowV wr' wr.heap.size 3 v9 (ints (lk j) ++ [.int .i64 x])) :
    RW w wr' B S a len cap cm (updL lk j (lk j ++ [x])) st (updV lv j v9) sv := by
  obtain ⟨h1, h2, h3, h4, h5⟩ := H.turn (l := [B + 1]) (by simp) hT
  rw [A6_set _ hj] at hk
  have hs := H.s.lt
  refine ⟨h1, H.hB, hT.blk (by simp) H.c, hk, hT.blk (by simp) H.s, fun i hi => ?_, h3, h4, h5⟩
  unfold updL updV
  by_cases hij : i = j
  · rw [if_pos hij, if_pos hij, ints_snoc]; exact hr.mono (by omega)
  · rw [if_neg hij, if_neg hij]; exact h2 i hi
theorem RW.stores (H : RW w wr B S a len cap cm lk st lv sv) {j : Nat} (hj : j < 6) {v9 : Value} {x : Int} (hT : Turn [B + 2] wr wr') (hk : Blk wr' (B + 2) ((A6 sv).setIfInBounds j v9) 39) (hr : RowV wr' wr.heap.size 3 v9 (ints (st j) ++ [.int .i64 x])) :
    RW w wr' B S a len cap cm lk (updL st j (st j ++ [x])) lv (updV sv j v9) := by
  obtain ⟨h1, h2, h3, h4, h5⟩ := H.turn (l := [B + 2]) (by simp) hT
  rw [A6_set _ hj] at hk
  have hs := H.s.lt
  refine ⟨h1, H.hB, hT.blk (by simp) H.c, hT.blk (by simp) H.k, hk, h2, fun i hi => ?_, h4, h5⟩
  unfold updL updV
  by_cases hij : i = j
  · rw [if_pos hij, if_pos hij, ints_snoc]; exact hr.mono (by omega)
  · rw [if_neg hij, if_neg hij]; exact h3 i hi
/-- A slot's slice: nil, or with a last element. -/
theorem RowV.last {w : World} {base : Nat} {e : TypeId} {v : Value} {l : List Int} (h : RowV w base e v (ints l)) : (l = [] ∧ v = .slice none 0 0) ∨
    ∃ (g c m : Nat) (y : Int), v = .slice (some ⟨g, 0, none⟩) (m + 1) c ∧ l.length = m + 1 ∧ l.getLast? = some y ∧ w.cell? ⟨g, m, none⟩ = some (.int .i64 y) ∧ ∀ (j : Nat) (hj : j < l.length), w.cell? ⟨g, j, none⟩ = some (.int .i64 l[j]) := by
  rcases h.cases with ⟨h1, h2⟩ | ⟨g, c, h1, h2, -, h3⟩
  · exact Or.inl ⟨ints_nil.1 h1, h2⟩
  · rw [ints_len] at h1 h2
    obtain ⟨m, hm⟩ : ∃ m, l.length = m + 1 := ⟨l.length - 1, by omega⟩
    refine Or.inr ⟨g, c, m, l[m], by rw [h1, hm], hm, ?_, h3 m _ (ints_get l m (by omega)), fun j hj => h3 j _ (ints_get l j hj)⟩
    rw [List.getLast?_eq_getElem?]
    have e : l.length - 1 = m := by omega
    simp only [e]
    exact List.getElem?_eq_getElem (by omega)
end Go.Proofs.YtmgchpijkdammaaDoor
