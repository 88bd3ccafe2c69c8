/-
  The law ShapeKept: its map, its slices, its loops; its walk.
-/
import Derived.Test.YtmgchpijkdammaaDoorShK
import Derived.Test.YtmgchpijkdammaaDoorKit
import Derived.DeepKeys3
import Derived.WideKeyPair
import Derived.Maps.Own
import Derived.Test.YtmgchpijkdammaaDoorProg
import Derived.Test.YtmgchpijkdammaaDoorShRx
import Derived.Test.YtmgchpijkdammaaDoorOw
namespace Go.Proofs.YtmgchpijkdammaaDoor
set_option linter.unusedVariables false
set_option linter.unusedSimpArgs false
section
open Go Go.RowKit Go.WideMaps
open Go.ChangeMaps (setBlock heap_setBlock_same heap_setBlock_other)
theorem pairLaw : KeyLaw Tryd.prog 38 := deep_law (m := 2) (by decide) (by kernel_rfl) (by kernel_rfl) (by kernel_rfl)
theorem pairArr : ArrKey Tryd.prog 38 3 2 := by
  constructor
  all_goals kernel_rfl
def keyV (t : Int) (n : Nat) : Value := .agg #[.int .i64 t, .int .i64 (n : Int)]
theorem keyV_lit (t : Int) (n : Nat) (ht : 0 ≤ t ∧ t < 6) (hn : n ≤ 2000) : ∃ l, keyOf Tryd.prog 38 (keyV t n) = some l := by
  refine ⟨_, keyOf_pair (q := .i64) pairArr (by kernel_rfl) ⟨Tryd.prog.types.size - 1, by kernel_rfl⟩ ?_ ?_⟩
  · simp [Lit.wf, IntKind.min, IntKind.max, IntKind.bits, IntKind.signed]; omega
  · simp [Lit.wf, IntKind.min, IntKind.max, IntKind.bits, IntKind.signed]; omega
theorem keyV_inj {t t' : Int} {n n' : Nat} (h : keyV t n = keyV t' n') : t = t' ∧ n = n' := by
  simp [keyV] at h; exact ⟨h.1, by omega⟩
/-- The map in memory: what stands in it is 1, and stands there just where G says so. -/
def MapG (w : World) (b : Nat) (G : Int → Nat → Bool) : Prop := ∃ es clock, w.heap[b]? = some (.map es clock) ∧ (∀ e ∈ es.toList, ∃ (t : Int) (m : Nat), (0 ≤ t ∧ t < 6) ∧ m ≤ 2000 ∧ e.key = keyV t m ∧ e.val = .int .i64 1 ∧ G t m = true) ∧ ∀ t m, G t m = true → ∃ e ∈ es.toList, e.key = keyV t m
theorem MapG.lt {w : World} {b : Nat} {G : Int → Nat → Bool} (h : MapG w b G) : b < w.heap.size := by
  obtain ⟨es, clock, h, -⟩ := h
  exact (Array.getElem?_eq_some_iff.1 h).1
theorem MapG.block {w w' : World} {b : Nat} {G : Int → Nat → Bool} (h : MapG w b G) (hb : w'.heap[b]? = w.heap[b]?) : MapG w' b G := by
  obtain ⟨es, clock, h, k⟩ := h
  exact ⟨es, clock, by rw [hb]; exact h, k⟩
theorem MapG.below {w w' : World} {b : Nat} {G : Int → Nat → Bool} (h : MapG w b G) (hb : Below w.heap.size w w') : MapG w' b G := h.block (hb.block b h.lt)
theorem MapG.new (w : World) : MapG (w.alloc (.map #[] 0)) w.heap.size (fun _ _ => false) :=
  ⟨#[], 0, heap_alloc_new w _, fun e he => by simp at he, fun _ _ h => by cases h⟩
theorem MapG.new' (w : World) {b : Nat} (h : b = w.heap.size) : MapG (w.alloc (.map #[] 0)) b (fun _ _ => false) := by subst h; exact MapG.new w
theorem MapG.look {w : World} {b : Nat} {G : Int → Nat → Bool} (h : MapG w b G) (t : Int) (m : Nat) (ht : 0 ≤ t ∧ t < 6) (hm : m ≤ 2000) :
    (Instr.lookup 37 (.map (some b)) (keyV t m) false).run Tryd.prog w = .ok (.int .i64 (if G t m = true then 1 else 0)) w := by
  obtain ⟨es, clock, hb, h1, h2⟩ := h
  obtain ⟨lx, hx⟩ := keyV_lit t m ht hm
  have hK : ∀ e ∈ es.toList, ∃ l, keyOf Tryd.prog 38 e.key = some l := by
    intro e he
    obtain ⟨t', m', a1, a2, a3, -⟩ := h1 e he
    rw [a3]; exact keyV_lit t' m' a1 a2
  have ht' : Tryd.prog.underlying 37 = some (.map 38 3) := by kernel_rfl
  have hz : (zeroValue 3).run Tryd.prog w = .ok (.int .i64 0) w := by kernel_rfl
  rcases pairLaw.find w hx es.toList hK with ⟨g1, g2⟩ | ⟨j, e0, g1, g2, g3⟩
  · have hG : G t m = false := by
      cases hg : G t m with
      | false => rfl
      | true => obtain ⟨e, he, hk⟩ := h2 t m hg; exact absurd hk (g2 e he)
    rw [hG]
    simp [Instr.lookup, run_underlying ht', MapKept.run_getObj_map hb, pairLaw.check w _ hx, g1, hz, Result.andThen]
  · obtain ⟨t', m', a1, a2, a3, a4, a5⟩ := h1 e0 (List.mem_of_getElem? g2)
    obtain ⟨rfl, rfl⟩ := keyV_inj (a3.symm.trans g3)
    rw [a5]
    simp [Instr.lookup, run_underlying ht', MapKept.run_getObj_map hb, pairLaw.check w _ hx, g1, a4, Result.andThen]
theorem MapG.put {w : World} {b : Nat} {G : Int → Nat → Bool} (h : MapG w b G) (t : Int) (m : Nat) (ht : 0 ≤ t ∧ t < 6) (hm : m ≤ 2000) :
    ∃ w', (Instr.mapUpdate 37 (.map (some b)) (keyV t m) (.int .i64 1)).run Tryd.prog w = .ok () w' ∧ MapG w' b (fun x y => G x y || decide (x = t ∧ y = m)) ∧ w.grownBy w' (some b) := by
  obtain ⟨es, clock, hb, h1, h2⟩ := h
  obtain ⟨lx, hx⟩ := keyV_lit t m ht hm
  have hK : ∀ e ∈ es.toList, ∃ l, keyOf Tryd.prog 38 e.key = some l := by
    intro e he
    obtain ⟨t', m', a1, a2, a3, -⟩ := h1 e he
    rw [a3]; exact keyV_lit t' m' a1 a2
  have ht' : Tryd.prog.underlying 37 = some (.map 38 3) := by kernel_rfl
  have gr : ∀ o, w.grownBy (setBlock w b o) (some b) := fun o => ⟨rfl, rfl, rfl, by simp [setBlock], fun i _ hi => heap_setBlock_other hb _ (fun e => hi (by rw [e]))⟩
  rcases pairLaw.find w hx es.toList hK with ⟨g1, g2⟩ | ⟨j, e0, g1, g2, g3⟩
  · refine ⟨setBlock w b (.map (es.push ⟨keyV t m, .int .i64 1, clock⟩) (clock + 1)), ?_, ⟨_, _, heap_setBlock_same hb _, fun e he => ?_, fun x y hg => ?_⟩, gr _⟩
    · simp [Instr.mapUpdate, run_underlying ht', MapKept.run_getObj_map hb, pairLaw.check w false hx, g1, MapKept.run_setObj_map _ hb, Result.andThen, setBlock]
    · simp only [Array.toList_push, List.mem_append, List.mem_singleton] at he
      rcases he with he | rfl
      · obtain ⟨t', m', a1, a2, a3, a4, a5⟩ := h1 e he
        exact ⟨t', m', a1, a2, a3, a4, by simp [a5]⟩
      · exact ⟨t, m, ht, hm, rfl, rfl, by simp⟩
    · rw [Bool.or_eq_true, decide_eq_true_eq] at hg
      rcases hg with hg | ⟨rfl, rfl⟩
      · obtain ⟨e, he, hk⟩ := h2 x y hg
        exact ⟨e, by simp [he], hk⟩
      · exact ⟨⟨keyV x y, .int .i64 1, clock⟩, by simp, rfl⟩
  · obtain ⟨t', m', a1, a2, a3, a4, a5⟩ := h1 e0 (List.mem_of_getElem? g2)
    obtain ⟨rfl, rfl⟩ := keyV_inj (a3.symm.trans g3)
    have hj : es[j]? = some e0 := by simpa using g2
    have hmod : (es.modify j fun e => { e with key := keyV t' m', val := .int .i64 1 }) = es := by
      apply Array.ext (by simp)
      intro i h3 h4
      rw [Array.getElem_modify]
      split
      · rename_i hij
        subst hij
        have : es[j] = e0 := by
          rw [Array.getElem?_eq_getElem h4] at hj; exact Option.some.inj hj
        rw [this]
        cases e0
        simp only at g3 a4
        subst g3; subst a4; rfl
      · rfl
    refine ⟨setBlock w b (.map es clock), ?_, ⟨es, clock, heap_setBlock_same hb _, fun e he => ?_, fun x y hg => ?_⟩, gr _⟩
    · simp [Instr.mapUpdate, run_underlying ht', MapKept.run_getObj_map hb, pairLaw.check w false hx, g1, hj, g3, pairLaw.stays w hx, MapKept.run_setObj_map _ hb, Result.andThen, setBlock, hmod]
    · obtain ⟨t, m, b1, b2, b3, b4, b5⟩ := h1 e he
      exact ⟨t, m, b1, b2, b3, b4, by simp [b5]⟩
    · rw [Bool.or_eq_true, decide_eq_true_eq] at hg
      rcases hg with hg | ⟨rfl, rfl⟩
      · exact h2 x y hg
      · exact ⟨e0, List.mem_of_getElem? g2, g3⟩
end
section
open Go Go.RowKit
theorem infoI : (Tryd.prog.info? 3).map (fun i => (i.zero, i.size, i.bytes)) = some (some (.int .i64 0), 1, 8) := by kernel_rfl
/-- Which attempt each of the first k events is of; 0 for the others. -/
def ofC (L : List Ev) (k : Nat) : Array Value := ((List.range L.length).map fun j => Value.int .i64 (if j < k then (ofAt L j : Int) else 0)).toArray
theorem ofC_get (L : List Ev) (k j : Nat) (h : j < L.length) : (ofC L k)[j]? = some (.int .i64 (if j < k then (ofAt L j : Int) else 0)) := by
  unfold ofC; rw [List.getElem?_toArray, List.getElem?_map, List.getElem?_range h]; rfl
theorem ofC_set (L : List Ev) (k : Nat) (h : k < L.length) : (ofC L k).setIfInBounds k (.int .i64 (ofAt L k : Int)) = ofC L (k + 1) := by
  apply Array.ext
  · simp [ofC]
  · intro i h1 h2
    have hi : i < L.length := by simpa [ofC] using h2
    have e1 := ofC_get L k i hi
    have e2 := ofC_get L (k + 1) i hi
    rw [Array.getElem?_eq_getElem h2] at e2
    rw [Option.some.inj e2, Array.getElem_setIfInBounds (by simpa [ofC] using hi)]
    by_cases hij : k = i
    · subst hij; simp
    · rw [if_neg hij]
      rw [Array.getElem?_eq_getElem (by simpa [ofC] using hi)] at e1
      rw [Option.some.inj e1]
      congr 1
      by_cases h3 : i < k
      · rw [if_pos h3, if_pos (by omega)]
      · rw [if_neg h3, if_neg (by omega)]
set_option maxRecDepth 100000 in
set_option maxHeartbeats 4000000 in
theorem run_mkof (W : World) (L : List Ev) (hn : L.length ≤ 2000) : (Instr.makeSlice 36 (.int .i64 (L.length : Int)) (.int .i64 (L.length : Int))).run Tryd.prog W = .ok (.slice (some ⟨W.heap.size, 0, none⟩) L.length L.length) (W.alloc (.cells (ofC L 0) 3)) := by
  obtain ⟨i0, hi, hz0, hz1, hz2⟩ := info_parts infoI
  rw [run_make W 36 3 i0 _ Tryd.underlying36 hi hz0 .i64 .i64 L.length L.length (by omega) (by omega) (by rw [hz2]; omega) (by omega), hz1]
  congr 1
  simp only [Int.toNat_natCast, Nat.mul_one]
  congr 1
  unfold ofC madeCells
  congr 1
  apply Array.ext
  · simp
  · intro j h1 h2
    simp [Value.cells, Nat.mod_one]
theorem run_th6 : ∀ (l : List Ev) {s s' : Sh}, Wf s → runS s l = some s' → ∀ e ∈ l, 0 ≤ e.th ∧ e.th < 6
  | [], _, _, _, _, e, he => by cases he
  | x :: l, s, s', hw, h, e, he => by
    unfold runS at h
    cases hs : stepS s x with
    | none => rw [hs] at h; cases h
    | some r =>
      rw [hs] at h
      rcases List.mem_cons.1 he with rfl | he
      · obtain ⟨th, t', h1, h2, -⟩ := at_step hw hs
        have := hw.size
        omega
      · exact run_th6 l (stepS_wf hw hs) h e he
/-- The worlds of the law's first loop: B: of, B + 1: begun, B + 2: gone. -/
structure K1 (w wr : World) (B : Nat) (T V S : Int) (a : Option Addr) (cap : Nat) (L : List Ev) (k : Nat) : Prop where
  low : Below w.heap.size w wr
  hB : w.heap.size < B
  o : Blk wr B (ofC L k) 3
  c : Blk wr (B + 1) (A6 fun i => .int .i64 (cntB (i : Int) (L.take k) : Int)) 35
  m : MapG wr (B + 2) (fun t n => gon t n 0 (L.take k))
  d0 : wr.cell? ⟨w.heap.size, 0, none⟩ = some (.int .i64 T)
  d1 : wr.cell? ⟨w.heap.size, 1, none⟩ = some (.int .i64 V)
  d2 : wr.cell? ⟨w.heap.size, 2, none⟩ = some (.int .i64 S)
  d3 : wr.cell? ⟨w.heap.size, 3, none⟩ = some (.slice a L.length cap)
variable {w wr wr' : World} {B : Nat} {T V S : Int} {a : Option Addr} {cap : Nat} {L : List Ev} {k : Nat}
theorem K1.below (H : K1 w wr B T V S a cap L k) (hb : Below wr.heap.size wr wr') : K1 w wr' B T V S a cap L k :=
  ⟨ext_trans H.low hb, H.hB, H.o.below hb, H.c.below hb, H.m.below hb, later hb H.d0, later hb H.d1, later hb H.d2, later hb H.d3⟩
theorem Turn.far {w wr wr' : World} {B : Nat} {l : List Nat} (hw : Below w.heap.size w wr) (hB : w.heap.size < B) (hl : ∀ x ∈ l, B ≤ x) (hb : Turn l wr wr') : Below w.heap.size w wr' ∧ ∀ (o : Nat) (v : Value), wr.cell? ⟨w.heap.size, o, none⟩ = some v → wr'.cell? ⟨w.heap.size, o, none⟩ = some v := by
  refine ⟨?_, fun o v h => hb.cell (fun hm => by have := hl _ hm; omega) h⟩
  have h1 := hb.below (B := w.heap.size) (fun x hx => by have := hl x hx; omega) hw.size
  exact hw.trans h1
/-- The counts behind one more event. -/
theorem cnt_step (L : List Ev) (k : Nat) (h : k < L.length) (i : Int) : cntB i (L.take (k + 1)) = cntB i (L.take k) + (if L[k].th = i ∧ L[k].kind = 1 then 1 else 0) := by
  rw [List.take_succ_eq_append_getElem h, cntB_append]; simp [cntB]
theorem gon_step (L : List Ev) (k : Nat) (h : k < L.length) (t : Int) (n : Nat) : gon t n 0 (L.take (k + 1)) = (gon t n 0 (L.take k) || decide (t = L[k].th ∧ n = cntB t (L.take (k + 1)) ∧ (L[k].kind = 10 ∨ L[k].kind = 12))) := by
  rw [cnt_step L k h, List.take_succ_eq_append_getElem h, gon_append]
  congr 1
  rw [gon_cons, Nat.zero_add]
  by_cases h1 : L[k].th = t
  · rw [if_pos h1]
    by_cases h2 : L[k].kind = 1
    · rw [if_pos h2]
      symm; rw [show gon t n (cntB t (List.take k L) + 1) [] = false from rfl, decide_eq_false_iff_not]
      omega
    · rw [if_neg h2, if_neg (by intro h'; exact h2 h'.2), show gon t n (cntB t (List.take k L)) [] = false from rfl, Bool.or_false, Nat.add_zero]
      congr 1
      apply propext
      constructor
      · rintro ⟨e1, e2⟩; exact ⟨h1.symm, e1.symm, e2⟩
      · rintro ⟨-, e1, e2⟩; exact ⟨e1.symm, e2⟩
  · rw [if_neg h1]
    symm; rw [show gon t n (cntB t (List.take k L)) [] = false from rfl, decide_eq_false_iff_not]
    intro h'; exact h1 h'.1.symm
theorem ofAt_eq (L : List Ev) (k : Nat) (h : k < L.length) : ofAt L k = cntB L[k].th (L.take (k + 1)) := by
  unfold ofAt; rw [List.getElem?_eq_getElem h]
theorem ofAt_le (L : List Ev) (k : Nat) (hl : L.length ≤ 2000) : ofAt L k ≤ 2000 := by
  unfold ofAt
  split
  · have := cntB_le (by assumption : Ev).th (L.take (k + 1)); rw [List.length_take] at this; omega
  · omega
/-- One more event, where none begins, and none goes. -/
theorem K1.other (H : K1 w wr B T V S a cap L k) (hk : k < L.length) (h1 : L[k].kind ≠ 1) (h10 : L[k].kind ≠ 10) (h12 : L[k].kind ≠ 12) : K1 w (wr.setCell ⟨B, k, none⟩ (.int .i64 (ofAt L k : Int))) B T V S a cap L (k + 1) := by
  have hT : Turn [B] wr (wr.setCell ⟨B, k, none⟩ (.int .i64 (ofAt L k : Int))) := (Turn.refl _ _).setCell (Or.inl (by simp)) _
  obtain ⟨e1, e2⟩ := Turn.far H.low H.hB (l := [B]) (by simp) hT
  have ec : ∀ i : Int, cntB i (L.take (k + 1)) = cntB i (L.take k) := fun i => by rw [cnt_step L k hk, if_neg (by intro h; exact h1 h.2)]; rfl
  refine ⟨e1, H.hB, ?_, ?_, ?_, e2 _ _ H.d0, e2 _ _ H.d1, e2 _ _ H.d2, e2 _ _ H.d3⟩
  · rw [← ofC_set L k hk]; exact H.o.set k _
  · simp only [ec]; exact H.c.set_other _ _ (by simp)
  · have : (fun t n => gon t n 0 (L.take (k + 1))) = fun t n => gon t n 0 (L.take k) := by
      funext t n; rw [gon_step L k hk]
      have : decide (t = L[k].th ∧ n = cntB t (L.take (k + 1)) ∧ (L[k].kind = 10 ∨ L[k].kind = 12)) = false := by rw [decide_eq_false_iff_not]; omega
      rw [this, Bool.or_false]
    rw [this]
    exact H.m.block (Below.heap_setCell _ _ _ _ (by simp))
theorem K1.begin (H : K1 w wr B T V S a cap L k) (hk : k < L.length) (h1 : L[k].kind = 1) {th : Nat} (hth : L[k].th = (th : Int)) (h6 : th < 6) : K1 w ((wr.setCell ⟨B + 1, th, none⟩ (.int .i64 (cntB (th : Int) (L.take k) + 1 : Int))).setCell ⟨B, k, none⟩ (.int .i64 (ofAt L k : Int))) B T V S a cap L (k + 1) := by
  have hT : Turn [B, B + 1] wr ((wr.setCell ⟨B + 1, th, none⟩ (.int .i64 (cntB (th : Int) (L.take k) + 1 : Int))).setCell ⟨B, k, none⟩ (.int .i64 (ofAt L k : Int))) := ((Turn.refl _ _).setCell (Or.inl (by simp)) _).setCell (Or.inl (by simp)) _
  obtain ⟨e1, e2⟩ := Turn.far H.low H.hB (l := [B, B + 1]) (by simp) hT
  refine ⟨e1, H.hB, ?_, ?_, ?_, e2 _ _ H.d0, e2 _ _ H.d1, e2 _ _ H.d2, e2 _ _ H.d3⟩
  · rw [← ofC_set L k hk]; exact (H.o.set_other _ _ (by simp)).set k _
  · have := (H.c.set th (.int .i64 (cntB (th : Int) (L.take k) + 1 : Int))).set_other ⟨B, k, none⟩ (.int .i64 (ofAt L k : Int)) (by simp)
    rw [A6_set _ h6] at this
    have e : updV (fun (i : Nat) => Value.int .i64 (cntB (i : Int) (L.take k) : Int)) th (.int .i64 (cntB (th : Int) (L.take k) + 1 : Int)) = fun (i : Nat) => Value.int .i64 (cntB (i : Int) (L.take (k + 1)) : Int) := by
      funext i
      unfold updV
      rw [cnt_step L k hk (i : Int)]
      by_cases hi : i = th
      · subst hi; rw [if_pos rfl, if_pos ⟨hth, h1⟩]; rfl
      · rw [if_neg hi, if_neg (by intro h; have := h.1; omega)]; rfl
    rwa [e] at this
  · have : (fun t n => gon t n 0 (L.take (k + 1))) = fun t n => gon t n 0 (L.take k) := by
      funext t n; rw [gon_step L k hk]
      have : decide (t = L[k].th ∧ n = cntB t (L.take (k + 1)) ∧ (L[k].kind = 10 ∨ L[k].kind = 12)) = false := by rw [decide_eq_false_iff_not]; omega
      rw [this, Bool.or_false]
    rw [this]
    exact H.m.block (by rw [Below.heap_setCell _ _ _ _ (by simp), Below.heap_setCell _ _ _ _ (by simp)])
/-- What holds behind the store into 'of', and behind the one into the map. -/
theorem K1.gone (H : K1 w wr B T V S a cap L k) (hk : k < L.length) (h1 : L[k].kind = 10 ∨ L[k].kind = 12) {w2 w3 : World} (h2 : Turn [] (wr.setCell ⟨B, k, none⟩ (.int .i64 (ofAt L k : Int))) w2)
    (hm : MapG w3 (B + 2) (fun x y => gon x y 0 (L.take k) || decide (x = L[k].th ∧ y = ofAt L k))) (h3 : w2.grownBy w3 (some (B + 2))) : K1 w w3 B T V S a cap L (k + 1) := by
  have hT1 : Turn [B, B + 2] wr (wr.setCell ⟨B, k, none⟩ (.int .i64 (ofAt L k : Int))) := (Turn.refl _ _).setCell (Or.inl (by simp)) _
  have hT3 : Turn [B, B + 2] w2 w3 := ⟨h3.os, h3.tape, h3.output, h3.size, fun i hi hn => h3.block i hi (by simp at hn; simp; omega)⟩
  have hT := (hT1.trans (h2.mono (by simp))).trans hT3
  obtain ⟨e1, e2⟩ := Turn.far H.low H.hB (l := [B, B + 2]) (by simp) hT
  have ec : ∀ i : Int, cntB i (L.take (k + 1)) = cntB i (L.take k) := fun i => by rw [cnt_step L k hk, if_neg (by intro h; omega)]; rfl
  refine ⟨e1, H.hB, ?_, ?_, ?_, e2 _ _ H.d0, e2 _ _ H.d1, e2 _ _ H.d2, e2 _ _ H.d3⟩
  · rw [← ofC_set L k hk]
    have b1 := h2.blk (by simp) (H.o.set k (.int .i64 (ofAt L k : Int)))
    unfold Blk; rw [h3.block _ b1.lt (by simp)]; exact b1
  · simp only [ec]
    exact hT.blk (by simp) H.c
  · have : (fun t n => gon t n 0 (L.take (k + 1))) = fun x y => gon x y 0 (L.take k) || decide (x = L[k].th ∧ y = ofAt L k) := by
      funext t n; rw [gon_step L k hk, ofAt_eq L k hk]
      congr 1
      congr 1
      apply propext
      constructor
      · rintro ⟨rfl, e, -⟩; exact ⟨rfl, e⟩
      · rintro ⟨rfl, e⟩; exact ⟨rfl, e, h1⟩
    rw [this]; exact hm
end
section
open Go Go.RowKit
section
variable {P : Program}
/-- base: what was built so far lies there, or behind; U, o: where the slice stands. -/
structure BJ (W : World) (base U o : Nat) (e : TypeId) (size : Nat) (cs : Array Value) (tb : TypeId) (cur : Value) (n : Nat) (xs ev : List Value) (kn : Nat → Value) (l : Nat → Bool) (v : Nat → Value) (w' : World) : Prop where
  ord : l 10 = true → ∀ i, i < 10 → l i = true
  low : l 10 = false → Below base W w'
  kn : ∀ i, i < 7 ∨ i = 9 → l i = true → v i = kn i
  e1 : l 8 = false → w'.ownsRow base e size cur n xs
  e7 : l 7 = true → l 8 = false → ∃ g, v 7 = .slice (some ⟨g, 0, none⟩) 1 1 ∧ ∀ (j : Nat) (u : Value), ev[j]? = some u → w'.cell? ⟨g, j, none⟩ = some u
  e8 : l 8 = true → l 10 = false → w'.ownsRow base e size (v 8) (n + 1) (xs ++ ev)
  fin : l 10 = true → ∃ v8, Below U W w' ∧ Blk w' U (cs.setIfInBounds o v8) tb ∧ w'.ownsRow base e size v8 (n + 1) (xs ++ ev)
variable {W : World} {base U o : Nat} {e : TypeId} {size : Nat} {cs : Array Value} {tb : TypeId} {cur : Value} {n : Nat} {xs ev : List Value} {kn : Nat → Value} {l l' : Nat → Bool} {v : Nat → Value} {w' w'' : World}
theorem BJ.ext (h : ∀ i, i < 11 → l i = l' i) (H : BJ W base U o e size cs tb cur n xs ev kn l v w') : BJ W base U o e size cs tb cur n xs ev kn l' v w' where
  ord g i hi := by rw [← h i (by omega)]; exact H.ord (by rw [h 10 (by omega)]; exact g) i hi
  low g := H.low (by rw [h 10 (by omega)]; exact g)
  kn i hi g := H.kn i hi (by rw [h i (by omega)]; exact g)
  e1 g := H.e1 (by rw [h 8 (by omega)]; exact g)
  e7 g g' := H.e7 (by rw [h 7 (by omega)]; exact g) (by rw [h 8 (by omega)]; exact g')
  e8 g g' := H.e8 (by rw [h 8 (by omega)]; exact g) (by rw [h 10 (by omega)]; exact g')
  fin g := H.fin (by rw [h 10 (by omega)]; exact g)
theorem BJ.start (hown : W.ownsRow base e size cur n xs) (hb : base ≤ W.heap.size) (U o : Nat) (cs : Array Value) (tb : TypeId) (ev : List Value) (kn : Nat → Value) : BJ W base U o e size cs tb cur n xs ev kn (fun _ => false) (fun _ => undef) W.drew :=
  ⟨fun h => by (cases h), fun _ => (Below.refl _ _).drew, fun _ _ h => by (cases h), fun _ => hown, fun h => by (cases h), fun h => by (cases h), fun h => by (cases h)⟩
theorem BJ.not (H : BJ W base U o e size cs tb cur n xs ev kn l v w') {i : Nat} (hi : i < 10) (hl : l i = false) : l 10 = false := by
  cases h : l 10 with
  | false => rfl
  | true => rw [H.ord h i hi] at hl; cases hl
theorem BJ.put {y : Value} (i : Nat) (hi : i < 8 ∨ i = 9) (hl : l i = false) (H : BJ W base U o e size cs tb cur n xs ev kn l v w') (hbs : base ≤ W.heap.size) (hb : Below w'.heap.size w' w'')
    (h0 : i < 7 ∨ i = 9 → y = kn i) (h7 : i = 7 → ∃ g, y = .slice (some ⟨g, 0, none⟩) 1 1 ∧ ∀ (j : Nat) (u : Value), ev[j]? = some u → w''.cell? ⟨g, j, none⟩ = some u) : BJ W base U o e size cs tb cur n xs ev kn (doneL l i) (doneV v i y) w'' := by
  have h10 : l 10 = false := H.not (by omega) hl
  have n10 : doneL l i 10 = false := by unfold doneL; rw [if_neg (by omega)]; exact h10
  have eL : ∀ j, j ≠ i → doneL l i j = l j := fun j h => by unfold doneL; rw [if_neg h]
  have eV : ∀ j, j ≠ i → doneV v i y j = v j := fun j h => by unfold doneV; rw [if_neg h]
  have iV : doneV v i y i = y := by unfold doneV; rw [if_pos rfl]
  have hlow := H.low h10
  refine ⟨fun g => by (rw [n10] at g; cases g), fun _ => hlow.trans (hb.mono (Nat.le_trans hbs hlow.size)), fun j hj g => ?_, fun g => ?_, fun g g' => ?_, fun g g' => ?_, fun g => by (rw [n10] at g; cases g)⟩
  · by_cases hh : j = i
    · subst hh; rw [iV]; exact h0 hj
    · rw [eL j hh] at g; rw [eV j hh]; exact H.kn j hj g
  · rw [eL 8 (by omega)] at g; exact own_old (H.e1 g) hb
  · by_cases hh : 7 = i
    · subst hh; rw [iV]; exact h7 rfl
    · rw [eL 7 hh] at g; rw [eL 8 (by omega)] at g'; rw [eV 7 hh]
      obtain ⟨a, a1, a2⟩ := H.e7 g g'
      exact ⟨a, a1, fun j u hu => later hb (a2 j u hu)⟩
  · rw [eL 8 (by omega)] at g; rw [eV 8 (by omega)]; exact own_old (H.e8 g h10) hb
theorem BJ.put8 {y : Value} (hl : l 8 = false) (H : BJ W base U o e size cs tb cur n xs ev kn l v w') (hbs : base ≤ W.heap.size) (hg : w'.grownBy w'' cur.ownBlock) (hy : w''.ownsRow base e size y (n + 1) (xs ++ ev)) : BJ W base U o e size cs tb cur n xs ev kn (doneL l 8) (doneV v 8 y) w'' := by
  have h10 : l 10 = false := H.not (by omega) hl
  have n10 : doneL l 8 10 = false := by unfold doneL; rw [if_neg (by omega)]; exact h10
  have eL : ∀ j, j ≠ 8 → doneL l 8 j = l j := fun j h => by unfold doneL; rw [if_neg h]
  have eV : ∀ j, j ≠ 8 → doneV v 8 y j = v j := fun j h => by unfold doneV; rw [if_neg h]
  have i8 : doneL l 8 8 = true := by unfold doneL; rw [if_pos rfl]
  have iV : doneV v 8 y 8 = y := by unfold doneV; rw [if_pos rfl]
  have own := H.e1 hl
  have hlow := H.low h10
  refine ⟨fun g => by (rw [n10] at g; cases g), fun _ => hlow.grown hg (Nat.le_trans hbs hlow.size) (fun k hk => (own.lt k hk).1), fun j hj g => ?_, fun g => by (rw [i8] at g; cases g), fun g g' => by (rw [i8] at g'; cases g'), fun g g' => by (rw [iV]; exact hy), fun g => by (rw [n10] at g; cases g)⟩
  · rw [eL j (by omega)] at g; rw [eV j (by omega)]; exact H.kn j hj g
theorem BJ.put10 (hB : Blk W U cs tb) (hU : U < base) (hbs : base ≤ W.heap.size) (hl : l 10 = false) (hall : ∀ i, i < 10 → l i = true) (H : BJ W base U o e size cs tb cur n xs ev kn l v w') : BJ W base U o e size cs tb cur n xs ev kn (doneL l 10) (doneV v 10 undef) (w'.setCell ⟨U, o, none⟩ (v 8)) := by
  have eL : ∀ j, j ≠ 10 → doneL l 10 j = l j := fun j h => by unfold doneL; rw [if_neg h]
  have eV : ∀ j, j ≠ 10 → doneV v 10 undef j = v j := fun j h => by unfold doneV; rw [if_neg h]
  have i10 : doneL l 10 10 = true := by unfold doneL; rw [if_pos rfl]
  have hlow := H.low hl
  have own := H.e8 (hall 8 (by omega)) hl
  have hBk : Blk w' U cs tb := by unfold Blk; rw [hlow.block U hU]; exact hB
  refine ⟨fun _ i hi => by (rw [eL i (by omega)]; exact hall i hi), fun g => by (rw [i10] at g; cases g), fun j hj g => ?_, fun g => ?_, fun g g' => ?_, fun g g' => by (rw [i10] at g'; cases g'), fun _ => ⟨v 8, ?_, ?_, ?_⟩⟩
  · rw [eL j (by omega)] at g; rw [eV j (by omega)]; exact H.kn j hj g
  · rw [eL 8 (by omega), hall 8 (by omega)] at g; cases g
  · rw [eL 8 (by omega), hall 8 (by omega)] at g'; cases g'
  · exact (hlow.mono (Nat.le_of_lt hU)).setCell (Nat.le_refl _) _
  · exact hBk.set o (v 8)
  · refine own.kept (row := some U) ⟨rfl, rfl, rfl, by simp [World.setCell], fun k hk hne => Below.heap_setCell _ _ _ _ (fun hh => hne (by rw [hh]))⟩ (Or.inr fun hh => ?_)
    have := (own.lt U hh).1
    omega
variable {ops : Array Oper} {Q : Exit → Act → World → Prop}
theorem wp_region_app2 {id : Nat} {a : Act} {aF : (Nat → Value) → Act} {W : World} (base U o : Nat) (e : TypeId) (size : Nat) (cs : Array Value) (tb : TypeId) (cur : Value) (n : Nat) (xs ev : List Value) (kn : Nat → Value)
    (hown : W.ownsRow base e size cur n xs) (hbs : base ≤ W.heap.size)
    (hF : ∀ vals, putAll ops vals (fun _ => true) a ops.size = aF vals) (hm : P.follows .mixedOrders = true) (hd : dstsApart ops = true) (hb : edgesBackB ops = true) (hng : guardsOk ops = true)
    (hsz : (List.range ops.size).all (fun i => match dstOf ops i with | some d => decide (d < a.tmps.size) | none => true) = true)
    (h11 : ops.size = 11)
    (hstep : EachOp (fun i o' => StepJ P ops (BJ W base U o e size cs tb cur n xs ev kn) a i o') 0 ops.toList)
    (hdone : ∀ (vals : Nat → Value) w', (∃ v8, Below U W w' ∧ Blk w' U (cs.setIfInBounds o v8) tb ∧ w'.ownsRow base e size v8 (n + 1) (xs ++ ev)) → Q .normal (aF vals) w') :
    (Code.region id ops true).wp P Q a W :=
  wp_region_inv' (BJ W base U o e size cs tb cur n xs ev kn) hF hm hd hb hng hsz (fun l l' v w' h H => H.ext (fun i hi => h i (by omega))) (BJ.start hown hbs U o cs tb ev kn) hstep (fun vals w' H => hdone vals w' (H.fin rfl))
end
end
section
open Go Go.RowKit
theorem infoEv : (Tryd.prog.info? 34).map (fun i => (i.zero, i.size, i.bytes)) = some (some (.agg #[.int .u8 0, .int .i64 0, .int .i64 0, .int .i64 0, .int .i64 0, .int .i64 0, .int .u8 0]), 7, 56) := by kernel_rfl
/-- Events' cells, one behind the other. -/
def evKs (l : List Ev) : List Value := (l.map evL).flatten
theorem evKs_snoc (l : List Ev) (e : Ev) : evKs (l ++ [e]) = evKs l ++ evL e := by simp [evKs]
theorem evKs_get (l : List Ev) (j i : Nat) (hj : j < l.length) (hi : i < 7) : (evKs l)[j * 7 + i]? = (evL l[j])[i]? := by
  unfold evKs
  rw [flat_get (m := 7) (by intro r hr; obtain ⟨e, -, rfl⟩ := List.mem_map.1 hr; rfl) j i (by simpa using hj) hi]
  simp
theorem evL_one (e : Ev) : ∀ u ∈ evL e, u.oneCell' = true := by
  intro u hu
  simp only [evL, List.mem_cons, List.not_mem_nil, or_false] at hu
  rcases hu with rfl | rfl | rfl | rfl | rfl | rfl | rfl <;> rfl
theorem keptL_mem (L : List Ev) : ∀ k, ∀ e ∈ keptL L k, e ∈ L
  | 0, e, h => by simp [keptL] at h
  | k + 1, e, h => by
    unfold keptL at h
    split at h
    · rename_i x hx
      split at h
      · exact keptL_mem L k e h
      · rcases List.mem_append.1 h with h | h
        · exact keptL_mem L k e h
        · rw [List.mem_singleton] at h; subst h; exact List.mem_of_getElem? hx
    · exact keptL_mem L k e h
theorem cellB {base : Nat} {w w' : World} (h : Below base w w') {b o : Nat} {v : Value} (hb : b < base) (hc : w.cell? ⟨b, o, none⟩ = some v) : w'.cell? ⟨b, o, none⟩ = some v := by
  rw [h.cell (p := ⟨b, o, none⟩) hb]; exact hc
theorem drewN_hp (w : World) (n : Nat) : (w.drewN n).heap = w.heap := by
  induction n with
  | zero => rfl
  | succ n ih => exact ih
/-- The worlds of the second loop; w3: where it begins. -/
structure K2 (w3 wr : World) (T V S : Int) (L : List Ev) (k : Nat) (v : Value) : Prop where
  low : Below w3.heap.size w3 wr
  u : Blk wr w3.heap.size #[.int .i64 T, .int .i64 V, .int .i64 S, v] 24
  own : wr.ownsRow (w3.heap.size + 1) 34 7 v (keptL L k).length (evKs (keptL L k))
  nil : keptL L k = [] → v = .slice none 0 0
variable {w3 wr wr' : World} {T V S : Int} {L : List Ev} {k : Nat} {v : Value}
theorem K2.below (H : K2 w3 wr T V S L k v) (hb : Below wr.heap.size wr wr') : K2 w3 wr' T V S L k v :=
  ⟨ext_trans H.low hb, H.u.below hb, own_old H.own hb, H.nil⟩
theorem K2.goesOn (H : K2 w3 wr T V S L k v) (hk : k < L.length) (hg : goes L L[k] k = true) : K2 w3 wr T V S L (k + 1) v := by
  have e : keptL L (k + 1) = keptL L k := by rw [keptL_step L k hk, if_pos hg]
  exact ⟨H.low, H.u, by rw [e]; exact H.own, by rw [e]; exact H.nil⟩
theorem K2.stays (H : K2 w3 wr T V S L k v) (hk : k < L.length) (hg : Go.Proofs.YtmgchpijkdammaaDoor.goes L L[k] k = false) {v8 : Value} (hb : Below w3.heap.size wr wr') (hu : Blk wr' w3.heap.size (#[.int .i64 T, .int .i64 V, .int .i64 S, v].setIfInBounds 3 v8) 24)
    (ho : wr'.ownsRow (w3.heap.size + 1) 34 7 v8 ((keptL L k).length + 1) (evKs (keptL L k) ++ evL L[k])) : K2 w3 wr' T V S L (k + 1) v8 := by
  have e : keptL L (k + 1) = keptL L k ++ [L[k]] := by rw [keptL_step L k hk, if_neg (by rw [hg]; decide)]
  refine ⟨H.low.trans hb, hu, ?_, fun h => ?_⟩
  · rw [e, evKs_snoc, List.length_append]; exact ho
  · rw [e] at h; simp at h
theorem K2.evs (H : K2 w3 wr T V S L k v) (hok : ∀ e ∈ L, EvOk e) : ∃ a cap, v = .slice a (keptL L k).length cap ∧ EvsAt wr a (keptL L k) := by
  have hok' : ∀ e ∈ keptL L k, EvOk e := fun e he => hok e (keptL_mem L k e he)
  by_cases hn : keptL L k = []
  · exact ⟨none, 0, by rw [H.nil hn, hn]; rfl, hok', fun h => absurd hn h⟩
  · have hp : 0 < (keptL L k).length := List.length_pos_iff.2 hn
    rcases H.own.2 with ⟨-, h0⟩ | ⟨g, cap, cur, hv, -, -⟩
    · omega
    · refine ⟨some ⟨g, 0, none⟩, cap, hv, hok', fun _ => ⟨g, 0, rfl, fun j hj i x hx => ?_⟩⟩
      have hi : i < 7 := by
        rcases Nat.lt_or_ge i 7 with h | h
        · exact h
        · rw [List.getElem?_eq_none (by simp [evL]; omega)] at hx; cases hx
      have hc := H.own.cells (g := g) (by rw [hv]; rfl) (j * 7 + i) x (by rw [evKs_get _ j i hj hi]; exact hx)
      have : (⟨g, 0, none⟩ : Addr).add (j * 7 + i) = ⟨g, j * 7 + i, none⟩ := by unfold Addr.add; split <;> simp_all
      rw [this] at hc
      rw [Nat.zero_add]; exact hc
theorem K2.start {w3 : World} {T V S : Int} {L : List Ev} : K2 w3 (w3.alloc (.cells #[.int .i64 T, .int .i64 V, .int .i64 S, .slice none 0 0] 24)) T V S L 0 (.slice none 0 0) :=
  ⟨ext_alloc (ext_refl _) _, Blk.new w3 _ _, World.ownsRow_nil _ _ _ _, fun _ => rfl⟩
/-- The map's store, in a region of nine operations. -/
structure MJ (W : World) (R : World → Prop) (l : Nat → Bool) (w' : World) : Prop where
  ord : l 8 = true → ∀ i, i < 8 → l i = true
  low : l 8 = false → w' = W.drew
  fin : l 8 = true → R w'
theorem MJ.ext {W : World} {R : World → Prop} {l l' : Nat → Bool} {w' : World} (h : ∀ i, i < 9 → l i = l' i) (H : MJ W R l w') : MJ W R l' w' :=
  ⟨fun g i hi => by rw [← h i (by omega)]; exact H.ord (by rw [h 8 (by omega)]; exact g) i hi, fun g => H.low (by rw [h 8 (by omega)]; exact g), fun g => H.fin (by rw [h 8 (by omega)]; exact g)⟩
theorem MJ.start (W : World) (R : World → Prop) : MJ W R (fun _ => false) W.drew := ⟨fun h => (by cases h), fun _ => rfl, fun h => (by cases h)⟩
theorem MJ.not {W : World} {R : World → Prop} {l : Nat → Bool} {w' : World} (H : MJ W R l w') {i : Nat} (hi : i < 8) (hl : l i = false) : l 8 = false := by
  cases h : l 8 with
  | false => rfl
  | true => rw [H.ord h i hi] at hl; cases hl
theorem MJ.put {W : World} {R : World → Prop} {l : Nat → Bool} {w' : World} (H : MJ W R l w') (i : Nat) (hi : i < 8) (hl : l i = false) : MJ W R (doneL l i) w' := by
  have h8 : l 8 = false := H.not hi hl
  have e8 : doneL l i 8 = false := by unfold doneL; rw [if_neg (by omega)]; exact h8
  exact ⟨fun g => (by rw [e8] at g; cases g), fun _ => H.low h8, fun g => (by rw [e8] at g; cases g)⟩
theorem MJ.put8 {W : World} {R : World → Prop} {l : Nat → Bool} {w' : World} (hall : ∀ i, i < 8 → l i = true) (h : R w') : MJ W R (doneL l 8) w' := by
  have e8 : doneL l 8 8 = true := by unfold doneL; rw [if_pos rfl]
  exact ⟨fun _ i hi => (by unfold doneL; rw [if_neg (by omega)]; exact hall i hi), fun g => (by rw [e8] at g; cases g), fun _ => h⟩
theorem opY_build {P : Program} {o : Oper} {ρ : Operand → Value} {w w' : World} {R : Value → World → Prop} {x : Operand} {t : TypeId} {vx v' : Value}
    (ho : o.op = .buildSlice t 1 #[(0, x)]) (hx : ρ x = vx) (hrun : (Instr.buildSlice t 1 #[(0, vx)]).run P w = .ok v' w') (h : R v' w') : OpY P o ρ w R := by
  unfold OpY OpR execOp
  simp [ho, hx, hrun, Result.andThen]
  exact h
theorem run_buildEv (kind th tx at_ v x why : Int) (w : World) : (Instr.buildSlice 22 1 #[(0, .agg #[.int .u8 kind, .int .i64 th, .int .i64 tx, .int .i64 at_, .int .i64 v, .int .i64 x, .int .u8 why])]).run Tryd.prog w = .ok (.slice (some ⟨w.heap.size, 0, none⟩) 1 1) (w.alloc (.cells #[.int .u8 kind, .int .i64 th, .int .i64 tx, .int .i64 at_, .int .i64 v, .int .i64 x, .int .u8 why] 34)) := by
  kernel_rfl
end
section
open Go Go.RowKit
theorem all8 {l : Nat → Bool} (h0 : l 0 = true) (h1 : l 1 = true) (h2 : l 2 = true) (h3 : l 3 = true) (h4 : l 4 = true) (h5 : l 5 = true) (h6 : l 6 = true) (h7 : l 7 = true) : ∀ i, i < 8 → l i = true := by
  intro i hi
  have : i = 0 ∨ i = 1 ∨ i = 2 ∨ i = 3 ∨ i = 4 ∨ i = 5 ∨ i = 6 ∨ i = 7 := by omega
  rcases this with rfl | rfl | rfl | rfl | rfl | rfl | rfl | rfl <;> assumption
theorem all10 {l : Nat → Bool} (h0 : l 0 = true) (h1 : l 1 = true) (h2 : l 2 = true) (h3 : l 3 = true) (h4 : l 4 = true) (h5 : l 5 = true) (h6 : l 6 = true) (h7 : l 7 = true) (h8 : l 8 = true) (h9 : l 9 = true) : ∀ i, i < 10 → l i = true := by
  intro i hi
  have : i = 0 ∨ i = 1 ∨ i = 2 ∨ i = 3 ∨ i = 4 ∨ i = 5 ∨ i = 6 ∨ i = 7 ∨ i = 8 ∨ i = 9 := by omega
  rcases this with rfl | rfl | rfl | rfl | rfl | rfl | rfl | rfl | rfl | rfl <;> assumption
theorem evL_arr {kind th tx at_ v x why : Int} {j : Nat} {u : Value} (h : (evL ⟨kind, th, tx, at_, v, x, why⟩)[j]? = some u) : (#[.int .u8 kind, .int .i64 th, .int .i64 tx, .int .i64 at_, .int .i64 v, .int .i64 x, .int .u8 why] : Array Value)[j]? = some u := by
  rw [← h]; exact List.getElem?_toArray ..
theorem wp_hide {P : Program} {C : Code} {Q : Exit → Act → World → Prop} {A : Act} {w : World} (F : World → Prop) (h : F w) (k : ∀ W, F W → C.wp P Q A W) : C.wp P Q A w := k w h
set_option maxRecDepth 100000 in
set_option maxHeartbeats 4000000 in
theorem kept_great (T V S : Int) (a : Option Addr) (len cap : Nat) (w : World) (hl : 2000 < len) (hK : KindsAt w) (hT : TabOk w) :
    Calls Tryd.prog 7 #[trA T V S a len cap] w fun e w' => e = .returned (.bool true) ∧ Below w.heap.size w w' := by
  have HW := hid (fun W (hW : Below w.heap.size w W) => works_any W (hK.below hW) (hT.below hW))
  have j : decide ((2000 : Int) < (len : Int)) = true := by rw [decide_eq_true_iff]; omega
  clear hl hK hT
  dsimp only [trA]
  have HB : Hid (Below w.heap.size w (w.alloc (.cells #[.int .i64 T, .int .i64 V, .int .i64 S, .slice a len cap] 24))) := hid (ext_alloc (ext_refl _) _)
  have d := (Blk.new w #[.int .i64 T, .int .i64 V, .int .i64 S, .slice a len cap] 24).cell 3 rfl
  go_enter Tryd.func7, Tryd.ntmps7
  go_wp2_with fail
  refine (HW.out _ HB.out).mono ?_
  rintro e' w1 ⟨rfl, hb1⟩
  have d3 := later hb1 d
  have HB1 := hid (ext_trans HB.out hb1)
  clear hb1 d
  go_wp2_with fail
  refine (HW.out _ HB1.out).mono ?_
  rintro e' w2 ⟨rfl, hb2⟩
  have HB2 := hid (ext_trans HB1.out hb2)
  clear hb2
  go_wp2_with fail
  go_ret
  exact ⟨rfl, HB2.out⟩
set_option maxRecDepth 100000 in
set_option maxHeartbeats 4000000 in
theorem kept_no (T V S : Int) (a : Option Addr) (l : List Ev) (cap : Nat) (w : World) (hl : l.length ≤ 2000) (hf : fineT T V S l = false) (hE : EvsAt w a l) (hK : KindsAt w) (hT : TabOk w) :
    Calls Tryd.prog 7 #[trA T V S a l.length cap] w fun e w' => e = .returned (.bool true) ∧ Below w.heap.size w w' := by
  have HW := hid (fun W (hW : Below w.heap.size w W) => works_any W (hK.below hW) (hT.below hW))
  have HC := hid (fun W (hW : Below w.heap.size w W) => fine_any T V S a l cap W (hE.below hW) (by omega) (hK.below hW) (hT.below hW))
  rw [hf] at HC
  have j : decide ((2000 : Int) < (l.length : Int)) = false := by rw [decide_eq_false_iff_not]; omega
  clear hl hK hT hE hf
  dsimp only [trA] at HC ⊢
  have HB : Hid (Below w.heap.size w (w.alloc (.cells #[.int .i64 T, .int .i64 V, .int .i64 S, .slice a l.length cap] 24))) := hid (ext_alloc (ext_refl _) _)
  have d := Blk.new w #[.int .i64 T, .int .i64 V, .int .i64 S, .slice a l.length cap] 24
  go_enter Tryd.func7, Tryd.ntmps7
  go_wp2_with fail
  refine (HW.out _ HB.out).mono ?_
  rintro e' w1 ⟨rfl, hb1⟩
  have d0 := later hb1 (d.cell 0 rfl)
  have d1 := later hb1 (d.cell 1 rfl)
  have d2 := later hb1 (d.cell 2 rfl)
  have d3 := later hb1 (d.cell 3 rfl)
  have HB1 := hid (ext_trans HB.out hb1)
  clear hb1 d
  go_wp2_with fail
  refine (HC.out _ HB1.out).mono ?_
  rintro e' w2 ⟨rfl, hb2⟩
  have HB2 := hid (ext_trans HB1.out hb2)
  clear hb2
  go_wp2_with fail
  go_ret
  exact ⟨rfl, HB2.out⟩
set_option maxRecDepth 100000 in
set_option maxHeartbeats 40000000 in
theorem kept_loop (T V S : Nat) (a : Option Addr) (l : List Ev) (cap : Nat) (w : World) (hl : l.length ≤ 2000) (hf : fineT T V S l = true) (hE : EvsAt w a l) (hK : KindsAt w) (hT : TabOk w) :
    Calls Tryd.prog 7 #[trA T V S a l.length cap] w fun e w' => e = .returned (.bool true) ∧ Below w.heap.size w w' := by
  obtain ⟨hz, hall⟩ := fineT_ok hl hf
  have HI := hid (info_parts infoEv)
  have HW := hid (fun W (hW : Below w.heap.size w W) => works_any W (hK.below hW) (hT.below hW))
  have HC := hid (fun W (hW : Below w.heap.size w W) => fine_any T V S a l cap W (hE.below hW) (by omega) (hK.below hW) (hT.below hW))
  have HC2 := hid (fun W (hW : Below w.heap.size w W) (a' : Option Addr) (cap' : Nat) (h : EvsAt W a' (keptL l l.length)) => fine_any T V S a' (keptL l l.length) cap' W h (by have := keptL_len l l.length; omega) (hK.below hW) (hT.below hW))
  rw [hf] at HC
  rw [keptL_fine hl hz hall] at HC2
  have j : decide ((2000 : Int) < (l.length : Int)) = false := by rw [decide_eq_false_iff_not]; omega
  have HTH : Hid (∀ e ∈ l, 0 ≤ e.th ∧ e.th < 6) := by
    obtain ⟨s', hs⟩ := Option.isSome_iff_exists.1 ((comes_iff l _).1 hall)
    exact hid (run_th6 l (newS_wf hz) hs)
  have hmk := fun W => run_mkof W l hl
  have hmm := @run_makeMap Tryd.prog
  have HE := hid hE
  have HL := hid hl
  have HCL := hid (fun k => ofAt_le l k hl)
  clear hl hK hT hE hf hz hall
  dsimp only [trA] at HC HC2 ⊢
  have HB : Hid (Below w.heap.size w (w.alloc (.cells #[.int .i64 (T : Int), .int .i64 (V : Int), .int .i64 (S : Int), .slice a l.length cap] 24))) := hid (ext_alloc (ext_refl _) _)
  have d := Blk.new w #[.int .i64 (T : Int), .int .i64 (V : Int), .int .i64 (S : Int), .slice a l.length cap] 24
  go_enter Tryd.func7, Tryd.ntmps7
  go_wp2_with fail
  refine (HW.out _ HB.out).mono ?_
  rintro e' w1 ⟨rfl, hb1⟩
  have d0 := later hb1 (d.cell 0 rfl)
  have d1 := later hb1 (d.cell 1 rfl)
  have d2 := later hb1 (d.cell 2 rfl)
  have d3 := later hb1 (d.cell 3 rfl)
  have HB1 := hid (ext_trans HB.out hb1)
  clear hb1 d
  go_wp2_with fail
  refine (HC.out _ HB1.out).mono ?_
  rintro e' w2 ⟨rfl, hb2⟩
  have f0 := later hb2 d0
  have f1 := later hb2 d1
  have f2 := later hb2 d2
  have f3 := later hb2 d3
  have HB2 := hid (ext_trans HB1.out hb2)
  have HOB := hid (lt_of_cell f2)
  clear hb2 d0 d1 d2 d3
  go_wp2_with fail
  have hx3 : Below w2.heap.size w2 (((w2.alloc (.cells (ofC l 0) 3)).alloc (.cells #[.int .i64 0, .int .i64 0, .int .i64 0, .int .i64 0, .int .i64 0, .int .i64 0] 35)).alloc (.map #[] 0)) := ext_alloc (ext_alloc (ext_alloc (ext_refl _) _) _) _
  have HK0 : Hid (K1 w (((w2.alloc (.cells (ofC l 0) 3)).alloc (.cells #[.int .i64 0, .int .i64 0, .int .i64 0, .int .i64 0, .int .i64 0, .int .i64 0] 35)).alloc (.map #[] 0)) w2.heap.size T V S a cap l 0) := by
    refine ⟨ext_trans HB2.out hx3, HOB.out, ((Blk.new _ _ _).alloc _).alloc _, (Blk.new' _ _ _ (by simp)).alloc _, ?_, later hx3 f0, later hx3 f1, later hx3 f2, later hx3 f3⟩
    exact MapG.new' _ (by simp)
  clear f0 f1 f2 f3 hmk hmm hx3
  focus
    go_loopw [6] (fun i wr => ∃ (k : Nat), k ≤ l.length ∧ i = .int .i64 (k : Int) ∧ Hid (K1 w wr w2.heap.size T V S a cap l k)) (fun i _ => l.length - (intOf i).toNat)
    case atStart => exact ⟨0, Nat.zero_le _, rfl, HK0⟩
    case round =>
      obtain ⟨k, hkl, rfl, HK⟩ := hrel
      have HKL := hid hkl
      have d3 := HK.out.d3
      clear HK0
      by_cases hlt : k < l.length
      · have j1 : decide ((k : Int) < (l.length : Int)) = true := by rw [decide_eq_true_iff]; omega
        have j2 : (0 : Int) ≤ (k : Int) := by omega
        have j2' : (k : Int) < (l.length : Int) := by omega
        have j3 : IntKind.i64.wrap ((k : Int) + 1) = (k : Int) + 1 := IntWalk.i64_in _ (by have := HL.out; omega)
        have j4 : decide (k < l.length) = true := by rw [decide_eq_true_iff]; omega
        obtain ⟨b, o, rfl, hcell⟩ := HE.out.2 (by intro h; rw [h] at hlt; simp at hlt)
        have hth := HTH.out l[k] (List.getElem_mem hlt)
        have hcs := cnt_step l k hlt l[k].th
        have hof := ofAt_eq l k hlt
        have hcl := HCL.out k
        rcases hek : l[k] with ⟨kind, thI, tx, at_, v, x, why⟩
        have e0 := later HK.out.low (hcell k hlt 0 (.int .u8 kind) (by rw [hek]; rfl))
        have e1 := later HK.out.low (hcell k hlt 1 (.int .i64 thI) (by rw [hek]; rfl))
        have e2 := later HK.out.low (hcell k hlt 2 (.int .i64 tx) (by rw [hek]; rfl))
        have e3 := later HK.out.low (hcell k hlt 3 (.int .i64 at_) (by rw [hek]; rfl))
        have e4 := later HK.out.low (hcell k hlt 4 (.int .i64 v) (by rw [hek]; rfl))
        have e5 := later HK.out.low (hcell k hlt 5 (.int .i64 x) (by rw [hek]; rfl))
        have e6 := later HK.out.low (hcell k hlt 6 (.int .u8 why) (by rw [hek]; rfl))
        rw [Nat.add_zero] at e0
        rw [hek] at hth hcs hof
        dsimp only at hth hcs hof
        obtain ⟨th, rfl⟩ : ∃ th : Nat, thI = (th : Int) := Int.eq_ofNat_of_zero_le hth.1
        have h6 : th < 6 := by omega
        have jt0 : (0 : Int) ≤ (th : Int) := by omega
        have jt6 : (th : Int) < 6 := by omega
        have HLT := hid hlt
        have HL6 := hid h6
        have HEK : Hid (l[k]'HLT.out = ⟨kind, (th : Int), tx, at_, v, x, why⟩) := hid hek
        obtain ⟨c, hc⟩ : ∃ c : Nat, c = cntB (th : Int) (l.take k) := ⟨_, rfl⟩
        rw [← hc] at hcs
        have hcr : c ≤ 2000 := by rw [hof, hcs] at hcl; omega
        have HA : ∀ kd : Int, Hid (Below wr.heap.size wr (wr.alloc (.cells #[.int .u8 kd, .int .i64 (th : Int), .int .i64 tx, .int .i64 at_, .int .i64 v, .int .i64 x, .int .u8 why] 34))) := fun kd => hid (ext_alloc (ext_refl _) _)
        clear hcell hek hkl hth
        by_cases k1 : kind = 1
        · as_aux_lemma =>
            subst k1
            rw [if_pos ⟨rfl, rfl⟩] at hcs
            have HK4 := hid (HK.out.below (HA 1).out)
            have c1 := HK4.out.c.cell th (A6_get _ h6)
            have z1 := HK4.out.c.free th
            have c2 := HK4.out.o.cell k (ofC_get l k k hlt)
            have z2 := HK4.out.o.free k
            rw [← hc] at c1
            rw [if_neg (Nat.lt_irrefl k)] at c2
            have hb0 := HK.out.o.lt
            have hb1 := HK.out.c.lt
            have hev := Blk.new wr #[.int .u8 1, .int .i64 (th : Int), .int .i64 tx, .int .i64 at_, .int .i64 v, .int .i64 x, .int .u8 why] 34
            have hev1 := hev.set_other ⟨w2.heap.size + 1, th, none⟩ (.int .i64 ((c : Int) + 1)) (by dsimp only; omega)
            have hev2 := hev1.set_other ⟨w2.heap.size, k, none⟩ (.int .i64 ((c : Int) + 1)) (by dsimp only; omega)
            have g0 := hev1.cell 1 rfl
            have g1 := hev2.cell 0 rfl
            clear hev hev1 hev2 hb0 hb1
            have jc : IntKind.i64.wrap ((c : Int) + 1) = (c : Int) + 1 := IntWalk.i64_in _ (by omega)
            have HO : Hid ((ofAt l k : Int) = (c : Int) + 1) := hid (by rw [hof, hcs]; omega)
            have HCC := hid hc
            have c1' := (HK4.out.c.set th (.int .i64 ((c : Int) + 1))).cell th (v := .int .i64 ((c : Int) + 1)) (by rw [A6_set _ h6, A6_get _ h6]; simp [updV])
            have c2' := (HK4.out.o.set_other ⟨w2.heap.size + 1, th, none⟩ (.int .i64 ((c : Int) + 1)) (by simp)).cell k (ofC_get l k k hlt)
            have z2' := (HK4.out.o.set_other ⟨w2.heap.size + 1, th, none⟩ (.int .i64 ((c : Int) + 1)) (by simp)).free k
            rw [if_neg (Nat.lt_irrefl k)] at c2'
            clear hcs hof hcl hc hlt h6 hcr
            go_wp2_with fail
            all_goals go_roundw
            case rel => exact ⟨k + 1, by have := HLT.out; omega, by simp, hid (by have h := HK4.out.begin HLT.out (by rw [HEK.out]) (by rw [HEK.out]) HL6.out; rw [HO.out, ← HCC.out] at h; exact h)⟩
            case measure => have := HLT.out; simp [intOf]; omega
        have hcs' : cntB (th : Int) (l.take (k + 1)) = c := by rw [hcs, if_neg (by intro h; exact k1 h.2)]; rfl
        have hoc : ofAt l k = c := by rw [hof, hcs']
        clear hcs hof hcl hcs'
        by_cases k10 : kind = 10
        · as_aux_lemma =>
            subst k10
            have HK4 := hid (HK.out.below (HA 10).out)
            have c1 := HK4.out.c.cell th (A6_get _ h6)
            have z1 := HK4.out.c.free th
            have c2 := HK4.out.o.cell k (ofC_get l k k hlt)
            have z2 := HK4.out.o.free k
            rw [← hc] at c1
            rw [if_neg (Nat.lt_irrefl k)] at c2
            have hb0 := HK.out.o.lt
            have hb1 := HK.out.c.lt
            have hev := Blk.new wr #[.int .u8 10, .int .i64 (th : Int), .int .i64 tx, .int .i64 at_, .int .i64 v, .int .i64 x, .int .u8 why] 34
            have hev2 := hev.set_other ⟨w2.heap.size, k, none⟩ (.int .i64 (c : Int)) (by dsimp only; omega)
            have g0 := hev2.cell 0 rfl
            have g1 := hev2.cell 1 rfl
            clear hev hev2 hb0 hb1
            obtain ⟨w3, hput, hM, hG⟩ := ((HK4.out.m.block (w' := ((wr.alloc (.cells #[.int .u8 10, .int .i64 (th : Int), .int .i64 tx, .int .i64 at_, .int .i64 v, .int .i64 x, .int .u8 why] 34)).setCell ⟨w2.heap.size, k, none⟩ (.int .i64 (c : Int))).drew) (Below.heap_setCell _ _ _ _ (by simp)))).put (th : Int) c ⟨jt0, jt6⟩ hcr
            have hput : (Instr.mapUpdate 37 (.map (some (w2.heap.size + 1 + 1))) (.agg #[.int .i64 (th : Int), .int .i64 (c : Int)]) (.int .i64 1)).run Tryd.prog _ = .ok () w3 := hput
            have c3' := (HK4.out.o.set k (.int .i64 (c : Int))).cell k (v := .int .i64 (c : Int)) (by have h := ofC_set l k hlt; rw [hoc] at h; rw [h, ofC_get l (k + 1) k hlt, if_pos (Nat.lt_succ_self k), hoc])
            have HM := hid hM
            have HG := hid hG
            have HOC := hid hoc
            have HPUT := hid hput
            clear hM hG hoc hput hc hlt h6 hcr
            go_wp2_with fail
            apply wp_region_valsJ [.map (some (w2.heap.size + 1 + 1)), .pointer (some ⟨wr.heap.size, 1, none⟩), .int .i64 (th : Int), .slice (some ⟨w2.heap.size, 0, none⟩) l.length l.length, .int .i64 (k : Int), .pointer (some ⟨w2.heap.size, k, none⟩), .int .i64 (c : Int), .agg #[.int .i64 (th : Int), .int .i64 (c : Int)], undef] (MJ ((wr.alloc (.cells #[.int .u8 10, .int .i64 (th : Int), .int .i64 tx, .int .i64 at_, .int .i64 v, .int .i64 x, .int .u8 why] 34)).setCell ⟨w2.heap.size, k, none⟩ (.int .i64 (c : Int))) (fun W => W = w3))
            focus (simp [putAll, dstOf, Act.put, List.getD]; rfl)
            case hm => kernel_rfl
            case hd => kernel_rfl
            case hb => kernel_rfl
            case hdep => kernel_rfl
            case hsel => kernel_rfl
            case hng => kernel_rfl
            case hgv => kernel_rfl
            case hsz => kernel_rfl
            case hext => exact fun _ _ _ h H => H.ext (fun i hi => h i (by simpa using hi))
            case h0 => exact MJ.start _ _
            case hstep =>
              refine ⟨?_, ?_, ?_, ?_, ?_, ?_, ?_, ?_, ?_, trivial⟩
              · intro lx w' hx hdp hJ
                rw [if_pos (by kernel_rfl)]
                obtain rfl := hJ.low (hJ.not (i := 0) (by decide) hx)
                have HJ := hid (hJ.put 0 (by decide) hx)
                clear hJ
                intro K Qp hK
                go_simp
                exact hK _ HJ.out
              · intro lx w' hx hdp hJ
                rw [if_pos (by kernel_rfl)]
                obtain rfl := hJ.low (hJ.not (i := 1) (by decide) hx)
                have HJ := hid (hJ.put 1 (by decide) hx)
                clear hJ
                intro K Qp hK
                go_simp
                exact hK _ HJ.out
              · intro lx w' hx hdp hJ
                rw [if_pos (by kernel_rfl)]
                obtain rfl := hJ.low (hJ.not (i := 2) (by decide) hx)
                have HJ := hid (hJ.put 2 (by decide) hx)
                clear hJ
                intro K Qp hK
                go_simp
                exact hK _ HJ.out
              · intro lx w' hx hdp hJ
                rw [if_pos (by kernel_rfl)]
                obtain rfl := hJ.low (hJ.not (i := 3) (by decide) hx)
                have HJ := hid (hJ.put 3 (by decide) hx)
                clear hJ
                intro K Qp hK
                go_simp
                exact hK _ HJ.out
              · intro lx w' hx hdp hJ
                rw [if_pos (by kernel_rfl)]
                obtain rfl := hJ.low (hJ.not (i := 4) (by decide) hx)
                have HJ := hid (hJ.put 4 (by decide) hx)
                clear hJ
                intro K Qp hK
                go_simp
                exact hK _ HJ.out
              · intro lx w' hx hdp hJ
                rw [if_pos (by kernel_rfl)]
                obtain rfl := hJ.low (hJ.not (i := 5) (by decide) hx)
                have HJ := hid (hJ.put 5 (by decide) hx)
                clear hJ
                intro K Qp hK
                go_simp
                exact hK _ HJ.out
              · intro lx w' hx hdp hJ
                rw [if_pos (by kernel_rfl)]
                obtain rfl := hJ.low (hJ.not (i := 6) (by decide) hx)
                have HJ := hid (hJ.put 6 (by decide) hx)
                clear hJ
                intro K Qp hK
                go_simp
                exact hK _ HJ.out
              · intro lx w' hx hdp hJ
                rw [if_pos (by kernel_rfl)]
                obtain rfl := hJ.low (hJ.not (i := 7) (by decide) hx)
                have HJ := hid (hJ.put 7 (by decide) hx)
                clear hJ
                intro K Qp hK
                go_simp
                exact hK _ HJ.out
              · intro lx w' hx hdp hJ
                rw [if_pos (by kernel_rfl)]
                obtain rfl := hJ.low hx
                have hall : ∀ i, i < 8 → lx i = true := all8 (hdp 0 (by kernel_rfl)) (hdp 1 (by kernel_rfl)) (hdp 2 (by kernel_rfl)) (hdp 3 (by kernel_rfl)) (hdp 4 (by kernel_rfl)) (hdp 5 (by kernel_rfl)) (hdp 6 (by kernel_rfl)) (hdp 7 (by kernel_rfl))
                have HALL8 := hid hall
                clear hall hJ
                have hput := HPUT.out
                intro K Qp hK
                go_simp
                exact hK _ (MJ.put8 HALL8.out rfl)
            case hdone =>
              intro w4 hJ
              obtain rfl := hJ.fin rfl
              clear hJ
              go_wp2_with fail
              all_goals go_roundw
              case rel => exact ⟨k + 1, by have := HLT.out; omega, by simp, hid (HK4.out.gone (w2 := ((wr.alloc (.cells #[.int .u8 10, .int .i64 (th : Int), .int .i64 tx, .int .i64 at_, .int .i64 v, .int .i64 x, .int .u8 why] 34)).setCell ⟨w2.heap.size, k, none⟩ (.int .i64 (c : Int))).drew) HLT.out (by rw [HEK.out]; simp) (by rw [HOC.out]; exact (Turn.refl _ _).drew) (by rw [HOC.out, HEK.out]; exact HM.out) HG.out)⟩
              case measure => have := HLT.out; simp [intOf]; omega
        by_cases k12 : kind = 12
        · as_aux_lemma =>
            subst k12
            have HK4 := hid (HK.out.below (HA 12).out)
            have c1 := HK4.out.c.cell th (A6_get _ h6)
            have z1 := HK4.out.c.free th
            have c2 := HK4.out.o.cell k (ofC_get l k k hlt)
            have z2 := HK4.out.o.free k
            rw [← hc] at c1
            rw [if_neg (Nat.lt_irrefl k)] at c2
            have hb0 := HK.out.o.lt
            have hb1 := HK.out.c.lt
            have hev := Blk.new wr #[.int .u8 12, .int .i64 (th : Int), .int .i64 tx, .int .i64 at_, .int .i64 v, .int .i64 x, .int .u8 why] 34
            have hev2 := hev.set_other ⟨w2.heap.size, k, none⟩ (.int .i64 (c : Int)) (by dsimp only; omega)
            have g0 := hev2.cell 0 rfl
            have g1 := hev2.cell 1 rfl
            clear hev hev2 hb0 hb1
            obtain ⟨w3, hput, hM, hG⟩ := ((HK4.out.m.block (w' := ((wr.alloc (.cells #[.int .u8 12, .int .i64 (th : Int), .int .i64 tx, .int .i64 at_, .int .i64 v, .int .i64 x, .int .u8 why] 34)).setCell ⟨w2.heap.size, k, none⟩ (.int .i64 (c : Int))).drew) (Below.heap_setCell _ _ _ _ (by simp)))).put (th : Int) c ⟨jt0, jt6⟩ hcr
            have hput : (Instr.mapUpdate 37 (.map (some (w2.heap.size + 1 + 1))) (.agg #[.int .i64 (th : Int), .int .i64 (c : Int)]) (.int .i64 1)).run Tryd.prog _ = .ok () w3 := hput
            have c3' := (HK4.out.o.set k (.int .i64 (c : Int))).cell k (v := .int .i64 (c : Int)) (by have h := ofC_set l k hlt; rw [hoc] at h; rw [h, ofC_get l (k + 1) k hlt, if_pos (Nat.lt_succ_self k), hoc])
            have HM := hid hM
            have HG := hid hG
            have HOC := hid hoc
            have HPUT := hid hput
            clear hM hG hoc hput hc hlt h6 hcr
            go_wp2_with fail
            apply wp_region_valsJ [.map (some (w2.heap.size + 1 + 1)), .pointer (some ⟨wr.heap.size, 1, none⟩), .int .i64 (th : Int), .slice (some ⟨w2.heap.size, 0, none⟩) l.length l.length, .int .i64 (k : Int), .pointer (some ⟨w2.heap.size, k, none⟩), .int .i64 (c : Int), .agg #[.int .i64 (th : Int), .int .i64 (c : Int)], undef] (MJ ((wr.alloc (.cells #[.int .u8 12, .int .i64 (th : Int), .int .i64 tx, .int .i64 at_, .int .i64 v, .int .i64 x, .int .u8 why] 34)).setCell ⟨w2.heap.size, k, none⟩ (.int .i64 (c : Int))) (fun W => W = w3))
            focus (simp [putAll, dstOf, Act.put, List.getD]; rfl)
            case hm => kernel_rfl
            case hd => kernel_rfl
            case hb => kernel_rfl
            case hdep => kernel_rfl
            case hsel => kernel_rfl
            case hng => kernel_rfl
            case hgv => kernel_rfl
            case hsz => kernel_rfl
            case hext => exact fun _ _ _ h H => H.ext (fun i hi => h i (by simpa using hi))
            case h0 => exact MJ.start _ _
            case hstep =>
              refine ⟨?_, ?_, ?_, ?_, ?_, ?_, ?_, ?_, ?_, trivial⟩
              · intro lx w' hx hdp hJ
                rw [if_pos (by kernel_rfl)]
                obtain rfl := hJ.low (hJ.not (i := 0) (by decide) hx)
                have HJ := hid (hJ.put 0 (by decide) hx)
                clear hJ
                intro K Qp hK
                go_simp
                exact hK _ HJ.out
              · intro lx w' hx hdp hJ
                rw [if_pos (by kernel_rfl)]
                obtain rfl := hJ.low (hJ.not (i := 1) (by decide) hx)
                have HJ := hid (hJ.put 1 (by decide) hx)
                clear hJ
                intro K Qp hK
                go_simp
                exact hK _ HJ.out
              · intro lx w' hx hdp hJ
                rw [if_pos (by kernel_rfl)]
                obtain rfl := hJ.low (hJ.not (i := 2) (by decide) hx)
                have HJ := hid (hJ.put 2 (by decide) hx)
                clear hJ
                intro K Qp hK
                go_simp
                exact hK _ HJ.out
              · intro lx w' hx hdp hJ
                rw [if_pos (by kernel_rfl)]
                obtain rfl := hJ.low (hJ.not (i := 3) (by decide) hx)
                have HJ := hid (hJ.put 3 (by decide) hx)
                clear hJ
                intro K Qp hK
                go_simp
                exact hK _ HJ.out
              · intro lx w' hx hdp hJ
                rw [if_pos (by kernel_rfl)]
                obtain rfl := hJ.low (hJ.not (i := 4) (by decide) hx)
                have HJ := hid (hJ.put 4 (by decide) hx)
                clear hJ
                intro K Qp hK
                go_simp
                exact hK _ HJ.out
              · intro lx w' hx hdp hJ
                rw [if_pos (by kernel_rfl)]
                obtain rfl := hJ.low (hJ.not (i := 5) (by decide) hx)
                have HJ := hid (hJ.put 5 (by decide) hx)
                clear hJ
                intro K Qp hK
                go_simp
                exact hK _ HJ.out
              · intro lx w' hx hdp hJ
                rw [if_pos (by kernel_rfl)]
                obtain rfl := hJ.low (hJ.not (i := 6) (by decide) hx)
                have HJ := hid (hJ.put 6 (by decide) hx)
                clear hJ
                intro K Qp hK
                go_simp
                exact hK _ HJ.out
              · intro lx w' hx hdp hJ
                rw [if_pos (by kernel_rfl)]
                obtain rfl := hJ.low (hJ.not (i := 7) (by decide) hx)
                have HJ := hid (hJ.put 7 (by decide) hx)
                clear hJ
                intro K Qp hK
                go_simp
                exact hK _ HJ.out
              · intro lx w' hx hdp hJ
                rw [if_pos (by kernel_rfl)]
                obtain rfl := hJ.low hx
                have hall : ∀ i, i < 8 → lx i = true := all8 (hdp 0 (by kernel_rfl)) (hdp 1 (by kernel_rfl)) (hdp 2 (by kernel_rfl)) (hdp 3 (by kernel_rfl)) (hdp 4 (by kernel_rfl)) (hdp 5 (by kernel_rfl)) (hdp 6 (by kernel_rfl)) (hdp 7 (by kernel_rfl))
                have HALL8 := hid hall
                clear hall hJ
                have hput := HPUT.out
                intro K Qp hK
                go_simp
                exact hK _ (MJ.put8 HALL8.out rfl)
            case hdone =>
              intro w4 hJ
              obtain rfl := hJ.fin rfl
              clear hJ
              go_wp2_with fail
              all_goals go_roundw
              case rel => exact ⟨k + 1, by have := HLT.out; omega, by simp, hid (HK4.out.gone (w2 := ((wr.alloc (.cells #[.int .u8 12, .int .i64 (th : Int), .int .i64 tx, .int .i64 at_, .int .i64 v, .int .i64 x, .int .u8 why] 34)).setCell ⟨w2.heap.size, k, none⟩ (.int .i64 (c : Int))).drew) HLT.out (by rw [HEK.out]; simp) (by rw [HOC.out]; exact (Turn.refl _ _).drew) (by rw [HOC.out, HEK.out]; exact HM.out) HG.out)⟩
              case measure => have := HLT.out; simp [intOf]; omega
        as_aux_lemma =>
          have HK4 := hid (HK.out.below (HA kind).out)
          have c1 := HK4.out.c.cell th (A6_get _ h6)
          have z1 := HK4.out.c.free th
          have c2 := HK4.out.o.cell k (ofC_get l k k hlt)
          have z2 := HK4.out.o.free k
          rw [← hc] at c1
          rw [if_neg (Nat.lt_irrefl k)] at c2
          have hb0 := HK.out.o.lt
          have hb1 := HK.out.c.lt
          have hev := Blk.new wr #[.int .u8 kind, .int .i64 (th : Int), .int .i64 tx, .int .i64 at_, .int .i64 v, .int .i64 x, .int .u8 why] 34
          have hev2 := hev.set_other ⟨w2.heap.size, k, none⟩ (.int .i64 (c : Int)) (by dsimp only; omega)
          have g0 := hev2.cell 0 rfl
          have g1 := hev2.cell 1 rfl
          clear hev hev2 hb0 hb1
          have jk1 : (kind == 1) = false := by simp [k1]
          have jk10 : (kind == 10) = false := by simp [k10]
          have jk12 : (kind == 12) = false := by simp [k12]
          have jd1 : decide (kind = 1) = false := by simp [k1]
          have jd10 : decide (kind = 10) = false := by simp [k10]
          have jd12 : decide (kind = 12) = false := by simp [k12]
          have HK1 := hid k1
          have HK10 := hid k10
          have HK12 := hid k12
          have HOC := hid hoc
          clear k1 k10 k12 hoc hc hlt h6 hcr
          go_wp2_with fail
          all_goals go_roundw
          case rel => exact ⟨k + 1, by have := HLT.out; omega, by simp, hid (by have h := HK4.out.other HLT.out (by rw [HEK.out]; exact HK1.out) (by rw [HEK.out]; exact HK10.out) (by rw [HEK.out]; exact HK12.out); rw [HOC.out] at h; exact h)⟩
          case measure => have := HLT.out; simp [intOf]; omega
      · obtain rfl : k = l.length := by omega
        have j1 : decide ((l.length : Int) < (l.length : Int)) = false := by rw [decide_eq_false_iff_not]; omega
        have j4 : decide (l.length < l.length) = false := by rw [decide_eq_false_iff_not]; omega
        clear hkl d3
        rename World => w3
        have HK3 := HK
        clear HK HKL
        have m0 := HK3.out.d0
        have m1 := HK3.out.d1
        have m2 := HK3.out.d2
        have m3 := HK3.out.d3
        have HB3 := hid (Nat.lt_trans HK3.out.hB HK3.out.o.lt)
        go_wp2_with fail
        go_loopw [9] (fun i wr => ∃ (k : Nat) (v : Value), k ≤ l.length ∧ i = .int .i64 (k : Int) ∧ Hid (K2 w3 wr T V S l k v)) (fun i _ => l.length - (intOf i).toNat)
        case atStart => exact ⟨0, _, Nat.zero_le _, rfl, hid K2.start⟩
        case round =>
          obtain ⟨k, cur, hkl, rfl, HK⟩ := hrel
          have HKL := hid hkl
          have n3 := later HK.out.low m3
          by_cases hlt : k < l.length
          · as_aux_lemma =>
            have j1 : decide ((k : Int) < (l.length : Int)) = true := by rw [decide_eq_true_iff]; omega
            have j2 : (0 : Int) ≤ (k : Int) := by omega
            have j2' : (k : Int) < (l.length : Int) := by omega
            have j3 : IntKind.i64.wrap ((k : Int) + 1) = (k : Int) + 1 := IntWalk.i64_in _ (by have := HL.out; omega)
            have j4 : decide (k < l.length) = true := by rw [decide_eq_true_iff]; omega
            obtain ⟨b, o, rfl, hcell⟩ := HE.out.2 (by intro h; rw [h] at hlt; simp at hlt)
            have hth := HTH.out l[k] (List.getElem_mem hlt)
            have hof := ofAt_eq l k hlt
            have hcl := HCL.out k
            have hgo : goes l l[k] k = gon l[k].th (ofAt l k) 0 l := by unfold goes; rw [hof]
            have hlow := ext_trans HK3.out.low HK.out.low
            have hbw := lt_of_cell (hcell k hlt 0 (.int .u8 l[k].kind) rfl)
            rcases hek : l[k] with ⟨kind, thI, tx, at_, v, x, why⟩
            have e0 := later hlow (hcell k hlt 0 (.int .u8 kind) (by rw [hek]; rfl))
            have e1 := later hlow (hcell k hlt 1 (.int .i64 thI) (by rw [hek]; rfl))
            have e2 := later hlow (hcell k hlt 2 (.int .i64 tx) (by rw [hek]; rfl))
            have e3 := later hlow (hcell k hlt 3 (.int .i64 at_) (by rw [hek]; rfl))
            have e4 := later hlow (hcell k hlt 4 (.int .i64 v) (by rw [hek]; rfl))
            have e5 := later hlow (hcell k hlt 5 (.int .i64 x) (by rw [hek]; rfl))
            have e6 := later hlow (hcell k hlt 6 (.int .u8 why) (by rw [hek]; rfl))
            rw [Nat.add_zero] at e0
            rw [hek] at hth hgo
            dsimp only at hth hgo
            obtain ⟨th, rfl⟩ : ∃ th : Nat, thI = (th : Int) := Int.eq_ofNat_of_zero_le hth.1
            obtain ⟨c, hc⟩ : ∃ c : Nat, c = ofAt l k := ⟨_, rfl⟩
            have co := later HK.out.low (HK3.out.o.cell k (ofC_get l l.length k hlt))
            rw [if_pos hlt, ← hc] at co
            have hlook : (Instr.lookup 37 (.map (some (w2.heap.size + 1 + 1))) (.agg #[.int .i64 (th : Int), .int .i64 (c : Int)]) false).run Tryd.prog wr.drew = .ok (.int .i64 (if gon (th : Int) c 0 l = true then 1 else 0)) wr.drew := by
              have h := ((HK3.out.m.below HK.out.low).block (w' := wr.drew) rfl).look (th : Int) c ⟨by omega, by omega⟩ (by omega)
              rw [List.take_length] at h
              exact h
            rw [← hc] at hgo
            have HLT := hid hlt
            have HEK : Hid (l[k]'HLT.out = ⟨kind, (th : Int), tx, at_, v, x, why⟩) := hid hek
            have HGO := hid hgo
            have HBW := hid hbw
            clear hcell hek hkl hth hof hcl hlow hlt hc hgo hbw
            cases hg : gon (th : Int) c 0 l with
            | true =>
              rw [hg] at HGO hlook
              simp only [if_true] at hlook
              clear hg
              go_wp2_with fail
              apply wp_region_valsJ [.map (some (w2.heap.size + 1 + 1)), .pointer (some ⟨w.heap.size, 3, none⟩), .slice (some ⟨b, o, none⟩) l.length cap, .int .i64 (k : Int), .pointer (some ⟨b, o + k * 7, none⟩), .pointer (some ⟨b, o + k * 7 + 1, none⟩), .int .i64 (th : Int), .slice (some ⟨w2.heap.size, 0, none⟩) l.length l.length, .int .i64 (k : Int), .pointer (some ⟨w2.heap.size, k, none⟩), .int .i64 (c : Int), .agg #[.int .i64 (th : Int), .int .i64 (c : Int)], .int .i64 1, .bool false] (fun _ w' => w' = wr.drew)
              focus (simp [putAll, dstOf, Act.put, List.getD]; rfl)
              case hm => kernel_rfl
              case hd => kernel_rfl
              case hb => kernel_rfl
              case hdep => kernel_rfl
              case hsel => kernel_rfl
              case hng => kernel_rfl
              case hgv => kernel_rfl
              case hsz => kernel_rfl
              case hext => exact fun _ _ _ _ h => h
              case h0 => rfl
              case hstep =>
                repeat' (first | exact trivial | (refine And.intro ?_ ?_))
                all_goals (
                  intro lx w' hx hdp hG
                  subst hG
                  rw [if_pos (by kernel_rfl)]
                  intro K Qp hK
                  go_simp
                  exact hK _ rfl)
              case hdone =>
                rintro _ rfl
                go_wp2_with fail
                all_goals go_roundw
                case rel => exact ⟨k + 1, cur, by have := HLT.out; omega, by simp, hid ((HK.out.below (ext_drew (ext_refl _))).goesOn HLT.out (by rw [HEK.out]; exact HGO.out))⟩
                case measure => have := HLT.out; simp [intOf]; omega
            | false =>
              rw [hg] at HGO hlook
              simp only [Bool.false_eq_true, if_false] at hlook
              clear hg
              go_wp2_with fail
              apply wp_region_valsJ [.map (some (w2.heap.size + 1 + 1)), .pointer (some ⟨w.heap.size, 3, none⟩), .slice (some ⟨b, o, none⟩) l.length cap, .int .i64 (k : Int), .pointer (some ⟨b, o + k * 7, none⟩), .pointer (some ⟨b, o + k * 7 + 1, none⟩), .int .i64 (th : Int), .slice (some ⟨w2.heap.size, 0, none⟩) l.length l.length, .int .i64 (k : Int), .pointer (some ⟨w2.heap.size, k, none⟩), .int .i64 (c : Int), .agg #[.int .i64 (th : Int), .int .i64 (c : Int)], .int .i64 0, .bool true] (fun _ w' => w' = wr.drew)
              focus (simp [putAll, dstOf, Act.put, List.getD]; rfl)
              case hm => kernel_rfl
              case hd => kernel_rfl
              case hb => kernel_rfl
              case hdep => kernel_rfl
              case hsel => kernel_rfl
              case hng => kernel_rfl
              case hgv => kernel_rfl
              case hsz => kernel_rfl
              case hext => exact fun _ _ _ _ h => h
              case h0 => rfl
              case hstep =>
                repeat' (first | exact trivial | (refine And.intro ?_ ?_))
                all_goals (
                  intro lx w' hx hdp hG
                  subst hG
                  rw [if_pos (by kernel_rfl)]
                  intro K Qp hK
                  go_simp
                  exact hK _ rfl)
              case hdone =>
                rintro _ rfl
                go_wp2_with fail
                clear hlook co
                refine wp_hide (fun W => K2 w3 W T V S l k cur ∧ W.cell? ⟨w.heap.size, 3, none⟩ = some (.slice (some ⟨b, o, none⟩) l.length cap) ∧ (∀ (j : Nat) (u : Value), (evL (l[k]'HLT.out))[j]? = some u → W.cell? ⟨b, o + k * 7 + j, none⟩ = some u)) ?_ ?_
                · refine ⟨HK.out.below (ext_drew (ext_refl _)), later (ext_drew (ext_refl _)) n3, fun j u hu => ?_⟩
                  have hu : (evL ⟨kind, (th : Int), tx, at_, v, x, why⟩)[j]? = some u := by have hh := HEK.out; rw [← hh]; exact hu
                  have : j = 0 ∨ j = 1 ∨ j = 2 ∨ j = 3 ∨ j = 4 ∨ j = 5 ∨ j = 6 ∨ 7 ≤ j := by omega
                  refine later (ext_drew (ext_refl _)) ?_
                  clear HEK
                  rcases this with rfl | rfl | rfl | rfl | rfl | rfl | rfl | h
                  · obtain rfl := Option.some.inj hu; exact e0
                  · obtain rfl := Option.some.inj hu; exact e1
                  · obtain rfl := Option.some.inj hu; exact e2
                  · obtain rfl := Option.some.inj hu; exact e3
                  · obtain rfl := Option.some.inj hu; exact e4
                  · obtain rfl := Option.some.inj hu; exact e5
                  · obtain rfl := Option.some.inj hu; exact e6
                  · rw [List.getElem?_eq_none (by simp [evL]; omega)] at hu; cases hu
                rintro W ⟨hk2, hk3, hev⟩
                have hev : ∀ (j : Nat) (u : Value), (evL ⟨kind, (th : Int), tx, at_, v, x, why⟩)[j]? = some u → W.cell? ⟨b, o + k * 7 + j, none⟩ = some u := by have hh := HEK.out; rw [← hh]; exact hev
                have HK2 := hid hk2
                have HK33 := hid hk3
                have HEV := hid hev
                have HBS := hid (show w3.heap.size + 1 ≤ W.heap.size by have := hk2.u.lt; omega)
                clear hk2 hk3 hev e0 e1 e2 e3 e4 e5 e6 n3
                apply wp_region_app2 (w3.heap.size + 1) w3.heap.size 3 34 7 #[.int .i64 (T : Int), .int .i64 (V : Int), .int .i64 (S : Int), cur] 24 cur (keptL l k).length (evKs (keptL l k)) (evL ⟨kind, th, tx, at_, v, x, why⟩) (fun i => if i = 0 ∨ i = 9 then .pointer (some ⟨w3.heap.size, 3, none⟩) else if i = 1 then cur else if i = 2 then .pointer (some ⟨w.heap.size, 3, none⟩) else if i = 3 then .slice (some ⟨b, o, none⟩) l.length cap else if i = 4 then .int .i64 (k : Int) else if i = 5 then .pointer (some ⟨b, o + k * 7, none⟩) else .agg #[.int .u8 kind, .int .i64 (th : Int), .int .i64 tx, .int .i64 at_, .int .i64 v, .int .i64 x, .int .u8 why]) HK2.out.own HBS.out
                focus (intro vals; simp [putAll, dstOf, Act.put]; rfl)
                case hm => kernel_rfl
                case hd => kernel_rfl
                case hb => kernel_rfl
                case hng => kernel_rfl
                case hsz => kernel_rfl
                case h11 => kernel_rfl
                case hstep =>
                  refine ⟨?_, ?_, ?_, ?_, ?_, ?_, ?_, ?_, ?_, ?_, ?_, trivial⟩
                  all_goals (
                    intro l1 vs w' hi hd hJ
                    refine ⟨(fun g b h => by cases h), fun _ ρ h1 h2 h3 h4 h5 => ?_⟩
                    have HQ := hid hJ
                    clear hJ)
                  · have fa := h5 8 (by kernel_rfl)
                    clear h4 h5
                    unfold OpY
                    go_simp
                    exact HQ.out.put 0 (by decide) hi HBS.out (ext_refl _) (fun _ => rfl) (fun h => absurd h (by decide))
                  · have hlow := HQ.out.low (HQ.out.not (by omega) hi)
                    have c := cellB hlow (Nat.lt_succ_self _) (HK2.out.u.cell 3 rfl)
                    have f0 : ρ (.tmp 94) = (.pointer (some ⟨w3.heap.size, 3, none⟩)) := (h4 0 94 (by kernel_rfl) (by kernel_rfl)).trans (HQ.out.kn 0 (by decide) (hd 0 (by kernel_rfl)))
                    clear h4 h5
                    unfold OpY
                    go_simp
                    exact HQ.out.put 1 (by decide) hi HBS.out (ext_refl _) (fun _ => rfl) (fun h => absurd h (by decide))
                  · have fa := h5 1 (by kernel_rfl)
                    clear h4 h5
                    unfold OpY
                    go_simp
                    exact HQ.out.put 2 (by decide) hi HBS.out (ext_refl _) (fun _ => rfl) (fun h => absurd h (by decide))
                  · have hlow := HQ.out.low (HQ.out.not (by omega) hi)
                    have c := cellB hlow (by have := HB3.out; omega) HK33.out
                    have f2 : ρ (.tmp 96) = (.pointer (some ⟨w.heap.size, 3, none⟩)) := (h4 2 96 (by kernel_rfl) (by kernel_rfl)).trans (HQ.out.kn 2 (by decide) (hd 2 (by kernel_rfl)))
                    clear h4 h5
                    unfold OpY
                    go_simp
                    exact HQ.out.put 3 (by decide) hi HBS.out (ext_refl _) (fun _ => rfl) (fun h => absurd h (by decide))
                  · have fa := h5 9 (by kernel_rfl)
                    clear h4 h5
                    unfold OpY
                    go_simp
                    exact HQ.out.put 4 (by decide) hi HBS.out (ext_refl _) (fun _ => rfl) (fun h => absurd h (by decide))
                  · have f3 : ρ (.tmp 97) = (.slice (some ⟨b, o, none⟩) l.length cap) := (h4 3 97 (by kernel_rfl) (by kernel_rfl)).trans (HQ.out.kn 3 (by decide) (hd 3 (by kernel_rfl)))
                    have f4 : ρ (.tmp 98) = (.int .i64 (k : Int)) := (h4 4 98 (by kernel_rfl) (by kernel_rfl)).trans (HQ.out.kn 4 (by decide) (hd 4 (by kernel_rfl)))
                    clear h4 h5
                    unfold OpY
                    go_simp
                    exact HQ.out.put 5 (by decide) hi HBS.out (ext_refl _) (fun _ => rfl) (fun h => absurd h (by decide))
                  · have hlow := HQ.out.low (HQ.out.not (by omega) hi)
                    have hbb : b < w3.heap.size + 1 := by have := HBW.out; have := HB3.out; omega
                    have c0 := cellB hlow hbb (HEV.out 0 _ rfl)
                    have c1 := cellB hlow hbb (HEV.out 1 _ rfl)
                    have c2 := cellB hlow hbb (HEV.out 2 _ rfl)
                    have c3 := cellB hlow hbb (HEV.out 3 _ rfl)
                    have c4 := cellB hlow hbb (HEV.out 4 _ rfl)
                    have c5 := cellB hlow hbb (HEV.out 5 _ rfl)
                    have c6 := cellB hlow hbb (HEV.out 6 _ rfl)
                    rw [Nat.add_zero] at c0
                    have f5 : ρ (.tmp 99) = (.pointer (some ⟨b, o + k * 7, none⟩)) := (h4 5 99 (by kernel_rfl) (by kernel_rfl)).trans (HQ.out.kn 5 (by decide) (hd 5 (by kernel_rfl)))
                    clear h4 h5 hbb
                    unfold OpY
                    go_simp
                    exact HQ.out.put 6 (by decide) hi HBS.out (ext_refl _) (fun _ => rfl) (fun h => absurd h (by decide))
                  · have f6 : ρ (.tmp 100) = (.agg #[.int .u8 kind, .int .i64 (th : Int), .int .i64 tx, .int .i64 at_, .int .i64 v, .int .i64 x, .int .u8 why]) := (h4 6 100 (by kernel_rfl) (by kernel_rfl)).trans (HQ.out.kn 6 (by decide) (hd 6 (by kernel_rfl)))
                    clear h4 h5
                    refine opY_build rfl f6 (run_buildEv kind th tx at_ v x why w') ?_
                    exact HQ.out.put 7 (by decide) hi HBS.out (ext_alloc (ext_refl _) _) (fun h => absurd h (by decide)) (fun _ => ⟨w'.heap.size, rfl, fun j u hu => (Blk.new w' #[.int .u8 kind, .int .i64 (th : Int), .int .i64 tx, .int .i64 at_, .int .i64 v, .int .i64 x, .int .u8 why] 34).cell j (evL_arr hu)⟩)
                  · have hlow := HQ.out.low (HQ.out.not (by omega) hi)
                    obtain ⟨g8, hv8, c8⟩ := HQ.out.e7 (hd 7 (by kernel_rfl)) hi
                    have e5 := HQ.out.e1 hi
                    have f1 : ρ (.tmp 95) = cur := (h4 1 95 (by kernel_rfl) (by kernel_rfl)).trans (HQ.out.kn 1 (by decide) (hd 1 (by kernel_rfl)))
                    have f7 := (h4 7 101 (by kernel_rfl) (by kernel_rfl)).trans hv8
                    obtain ⟨i0, hi0, hz0, hz1, hz2⟩ := HI.out
                    obtain ⟨v', w'', hrun, hown', hg, -, -⟩ := run_append_own_at w' (w3.heap.size + 1) 22 22 34 i0 _ 7 56 Tryd.underlying22 hi0 hz0 hz1 hz2 rfl (by decide) cur _ _ e5 ⟨g8, 0, none⟩ 1 1 (evL ⟨kind, th, tx, at_, v, x, why⟩) rfl (fun j u hu => by have hh : (⟨g8, 0, none⟩ : Addr).add j = ⟨g8, j, none⟩ := (by unfold Addr.add; split <;> simp_all); rw [hh]; exact c8 j u hu) (evL_one _) (by have := keptL_len l k; have := HL.out; have := HLT.out; unfold maxLen; omega) (by have := keptL_len l k; have := HL.out; have := HLT.out; omega) (Nat.le_trans HBS.out hlow.size)
                    refine opY_append rfl f1 f7 hrun ?_
                    exact HQ.out.put8 hi HBS.out hg hown'
                  · have fa := h5 8 (by kernel_rfl)
                    clear h4 h5
                    unfold OpY
                    go_simp
                    exact HQ.out.put 9 (by decide) hi HBS.out (ext_refl _) (fun _ => rfl) (fun h => absurd h (by decide))
                  · have hlow := HQ.out.low hi
                    have c := cellB hlow (Nat.lt_succ_self _) (HK2.out.u.cell 3 rfl)
                    have z : w'.frozen? ⟨w3.heap.size, 3, none⟩ = false := by rw [hlow.frozen (p := ⟨w3.heap.size, 3, none⟩) (Nat.lt_succ_self _)]; exact HK2.out.u.free 3
                    have f9 : ρ (.tmp 103) = (.pointer (some ⟨w3.heap.size, 3, none⟩)) := (h4 9 103 (by kernel_rfl) (by kernel_rfl)).trans (HQ.out.kn 9 (by decide) (hd 9 (by kernel_rfl)))
                    obtain ⟨g9, c9, hv9⟩ := own_form (HQ.out.e8 (hd 8 (by kernel_rfl)) hi)
                    have f8 := (h4 8 102 (by kernel_rfl) (by kernel_rfl)).trans hv9
                    have HV9 := hid hv9
                    clear hv9
                    have hall : ∀ i, i < 10 → l1 i = true := all10 (hd 0 (by kernel_rfl)) (hd 1 (by kernel_rfl)) (hd 2 (by kernel_rfl)) (hd 3 (by kernel_rfl)) (hd 4 (by kernel_rfl)) (hd 5 (by kernel_rfl)) (hd 6 (by kernel_rfl)) (hd 7 (by kernel_rfl)) (hd 8 (by kernel_rfl)) (hd 9 (by kernel_rfl))
                    have HALL10 := hid hall
                    clear hall
                    clear h4 h5
                    unfold OpY
                    go_simp
                    have h := HQ.out.put10 HK2.out.u (Nat.lt_succ_self _) HBS.out hi HALL10.out
                    rw [HV9.out] at h
                    exact h
                case hdone =>
                  rintro vs w' ⟨v8, hb8, hu8, ho8⟩
                  have HKn := hid (HK2.out.stays HLT.out (by rw [HEK.out]; exact HGO.out) hb8 hu8 (by rw [HEK.out]; exact ho8))
                  clear hb8 hu8 ho8
                  go_wp2_with fail
                  all_goals go_roundw
                  case rel => exact ⟨k + 1, v8, by have := HLT.out; omega, by simp, HKn⟩
                  case measure => have := HLT.out; simp [intOf]; omega
          · obtain rfl : k = l.length := by omega
            have j1 : decide ((l.length : Int) < (l.length : Int)) = false := by rw [decide_eq_false_iff_not]; omega
            have j4 : decide (l.length < l.length) = false := by rw [decide_eq_false_iff_not]; omega
            obtain ⟨a', cap', rfl, hEv⟩ := HK.out.evs HE.out.1
            have q0 := HK.out.u.cell 0 rfl
            have q1 := HK.out.u.cell 1 rfl
            have q2 := HK.out.u.cell 2 rfl
            have q3 := HK.out.u.cell 3 rfl
            have hlow := ext_trans HK3.out.low HK.out.low
            have HLOW := hid hlow
            have HC3 := hid (HC2.out wr hlow a' cap' hEv)
            clear hlow hEv
            go_wp2_with fail
            refine HC3.out.mono ?_
            rintro e' w5 ⟨rfl, hb5⟩
            have HB5 := hid (ext_trans HLOW.out hb5)
            clear hb5
            go_wp2_with fail
            go_ret
            exact ⟨rfl, HB5.out⟩
theorem shapeKept_any (T V S : Int) (a : Option Addr) (l : List Ev) (cap : Nat) (w : World) (hE : EvsAt w a l) (hK : KindsAt w) (hT : TabOk w) :
    Calls Tryd.prog 7 #[trA T V S a l.length cap] w fun e w' => e = .returned (.bool true) ∧ Below w.heap.size w w' := by
  by_cases hl : 2000 < l.length
  · exact kept_great T V S a _ cap w hl hK hT
  have hl' : l.length ≤ 2000 := by omega
  cases hf : fineT T V S l with
  | false => exact kept_no T V S a l cap w hl' hf hE hK hT
  | true =>
    obtain ⟨h1, h2, h3, h4, h5, h6⟩ := sizeOk_of (fineT_ok hl' hf).1
    obtain ⟨T, rfl⟩ := Int.eq_ofNat_of_zero_le h1
    obtain ⟨V, rfl⟩ := Int.eq_ofNat_of_zero_le (show 0 ≤ V by omega)
    obtain ⟨S, rfl⟩ := Int.eq_ofNat_of_zero_le (show 0 ≤ S by omega)
    exact kept_loop T V S a l cap w hl' hf hE hK hT
end
end Go.Proofs.YtmgchpijkdammaaDoor
