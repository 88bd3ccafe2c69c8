/-
  Walk: (pack.writer).block.
-/
import Derived.Test.YtaklfjjkeebheaaPkH
import Derived.Test.YtaklfjjkeebheaaPkD
namespace Go.Proofs.Ytaklfjjkeebheaa
set_option linter.unusedVariables false
set_option linter.unusedSimpArgs false
set_option linter.unusedVariables false
open Go Go.RowKit Go.Lib
theorem flat_sub {l : List St} {k : Nat} (h : k < l.length) : (∀ s ∈ flatT (l[k]'h).body, s ∈ flatT l) ∧ (∀ s ∈ flatT (l[k]'h).els, s ∈ flatT l) ∧ l[k]'h ∈ flatT l := by
  refine ⟨fun s hs => flatT_mem l k h s (.inr ?_), fun s hs => flatT_mem l k h s (.inr ?_), flatT_mem l k h _ (.inr ?_)⟩
  all_goals rw [flatS_is]
  · exact List.mem_cons_of_mem _ (List.mem_append_left _ hs)
  · exact List.mem_cons_of_mem _ (List.mem_append_right _ hs)
  · exact List.mem_cons_self
theorem RdSts.get10 {w : World} {q off : Nat} {l : List St} (h : RdSts w q off l) (n : Nat) (hn : n < l.length) : ∃ pa ca pb cb po co pe ce,
    w.cell? ⟨q, off + n * 10, none⟩ = some (.int .u8 (l[n]'hn).kind) ∧ w.cell? ⟨q, off + n * 10 + 1, none⟩ = some (.int .i64 (l[n]'hn).to) ∧ w.cell? ⟨q, off + n * 10 + 2, none⟩ = some (.int .u8 (l[n]'hn).a.op) ∧ w.cell? ⟨q, off + n * 10 + 3, none⟩ = some (.int .i64 (l[n]'hn).a.n) ∧ w.cell? ⟨q, off + n * 10 + 4, none⟩ = some (.slice pa (l[n]'hn).a.args.length ca) ∧
      w.cell? ⟨q, off + n * 10 + 5, none⟩ = some (.int .u8 (l[n]'hn).b.op) ∧ w.cell? ⟨q, off + n * 10 + 6, none⟩ = some (.int .i64 (l[n]'hn).b.n) ∧ w.cell? ⟨q, off + n * 10 + 7, none⟩ = some (.slice pb (l[n]'hn).b.args.length cb) ∧ w.cell? ⟨q, off + n * 10 + 8, none⟩ = some (.slice po (l[n]'hn).body.length co) ∧ w.cell? ⟨q, off + n * 10 + 9, none⟩ = some (.slice pe (l[n]'hn).els.length ce) ∧
      RdSt w (l[n]'hn) (.int .u8 (l[n]'hn).kind) (.int .i64 (l[n]'hn).to) (.int .u8 (l[n]'hn).a.op) (.int .i64 (l[n]'hn).a.n) (.slice pa (l[n]'hn).a.args.length ca) (.int .u8 (l[n]'hn).b.op) (.int .i64 (l[n]'hn).b.n) (.slice pb (l[n]'hn).b.args.length cb) (.slice po (l[n]'hn).body.length co) (.slice pe (l[n]'hn).els.length ce) := by
  obtain ⟨k, t, a0, a1, a2, b0, b1, b2, bo, el, h0, h1, h2, h3, h4, h5, h6, h7, h8, h9, h10⟩ := RdSts.get l h n hn
  obtain ⟨rfl, rfl, ha, hb, ho, he⟩ := h10.shape
  obtain ⟨pa, ca, rfl, rfl, rfl⟩ := ha.shape
  obtain ⟨pb, cb, rfl, rfl, rfl⟩ := hb.shape
  obtain ⟨po, co, rfl, -, -⟩ := ho
  obtain ⟨pe, ce, rfl, -, -⟩ := he
  exact ⟨pa, ca, pb, cb, po, co, pe, ce, h0, h1, h2, h3, h4, h5, h6, h7, h8, h9, h10⟩
theorem stsB_take : ∀ (l : List St) (k : Nat) (h : k < l.length), stsB (l.take (k + 1)) = stsB (l.take k) ++ stB l[k]
  | x :: xs, 0, h => by simp [stsB]
  | x :: xs, k + 1, h => by
    simp only [List.take_succ_cons, stsB, List.getElem_cons_succ]
    rw [stsB_take xs k (by simpa using h), List.append_assoc]
theorem stsB_take_le : ∀ (l : List St) (j : Nat), (stsB (l.take j)).length ≤ (stsB l).length
  | [], j => by simp [stsB]
  | x :: xs, 0 => by simp [stsB]
  | x :: xs, j + 1 => by
    simp only [List.take_succ_cons, stsB, List.length_append]
    have := stsB_take_le xs j
    omega
theorem stsB_le (l : List St) (k : Nat) (h : k < l.length) : (stsB (l.take k)).length + (stB l[k]).length ≤ (stsB l).length := by
  have := stsB_take_le l (k + 1)
  rw [stsB_take l k h, List.length_append] at this
  omega
theorem flat_take {f : Nat → List Nat} : ∀ (l : List Nat) (k : Nat) (h : k < l.length), (l.take (k + 1)).flatMap f = (l.take k).flatMap f ++ f l[k]
  | x :: xs, 0, h => by simp
  | x :: xs, k + 1, h => by
    simp only [List.take_succ_cons, List.flatMap_cons, List.getElem_cons_succ]
    rw [flat_take xs k (by simpa using h), List.append_assoc]
theorem flat_take_le {f : Nat → List Nat} : ∀ (l : List Nat) (j : Nat), ((l.take j).flatMap f).length ≤ (l.flatMap f).length
  | [], j => by simp
  | x :: xs, 0 => by simp
  | x :: xs, j + 1 => by
    simp only [List.take_succ_cons, List.flatMap_cons, List.length_append]
    have := flat_take_le (f := f) xs j
    omega
theorem flat_le {f : Nat → List Nat} (l : List Nat) (k : Nat) (h : k < l.length) : ((l.take k).flatMap f).length + (f l[k]).length ≤ (l.flatMap f).length := by
  have := flat_take_le (f := f) l (k + 1)
  rw [flat_take l k h, List.length_append] at this
  omega
/-- An iterator is no block of the writer's. -/
theorem WrtO.notIter {W : World} {b D j : Nat} {m : Int} {bs : List Nat} {base : Nat} {v : Value} {S : ByteArray} (h : WrtO W b m bs base v) (hd : W.heap[D]? = some (.stringIter S j)) : D ≠ b ∧ ∀ g, v.ownBlock = some g → D ≠ g := by
  refine ⟨fun e => ?_, fun g hg e => ?_⟩
  · subst e
    have := h.blk
    unfold Blk at this
    rw [this] at hd; cases hd
  · subst e
    rcases h.own.2 with ⟨hn, -⟩ | ⟨g2, cap, cur, hv, -, hg2, -⟩
    · rw [hn] at hg; simp [Value.ownBlock] at hg
    · rw [hv] at hg
      obtain rfl := Option.some.inj (show some g2 = some D from hg)
      rw [hg2] at hd; cases hd
theorem WrtO.iterAt {W : World} {b D j : Nat} {m : Int} {bs : List Nat} {base : Nat} {v : Value} {S : ByteArray} (h : WrtO W b m bs base v) (hd : W.heap[D]? = some (.stringIter S j)) (j' : Nat) : WrtO (W.iterAt D S j') b m bs base v := by
  obtain ⟨h1, h2⟩ := h.notIter hd
  exact ⟨(iterAt_other W D b S j' (Ne.symm h1)).trans h.blk, ownsRow_frame h.own (fun g hg => iterAt_other W D g S j' (Ne.symm (h2 g hg))), h.lt⟩
theorem WrG.iter {b : Nat} {v v' : Value} {W W' : World} {x : List Nat} {D j : Nat} {S : ByteArray} (h : WrG b v W x v' W') (hd : W'.heap[D]? = some (.stringIter S j)) (hD : W.heap.size ≤ D) (j' : Nat) : WrG b v W x v' (W'.iterAt D S j') :=
  ⟨h.w.iterAt hd j', h.own, ⟨h.turn.os, h.turn.tape, h.turn.output, by rw [iterAt_size]; exact h.turn.size, fun k hk hn => (iterAt_other W' D k S j' (by omega)).trans (h.turn.block k hk hn)⟩⟩
theorem WrG.iterKept {b : Nat} {v v' : Value} {W W' : World} {x bs : List Nat} {D j : Nat} {S : ByteArray} (h : WrG b v W x v' W') (hw : WrtO W b 16777216 bs (b + 1) v) (hd : W.heap[D]? = some (.stringIter S j)) : W'.heap[D]? = some (.stringIter S j) :=
  (h.keep (Array.getElem?_eq_some_iff.1 hd).1 (hw.notIter hd).1 (hw.notIter hd).2).trans hd
end Go.Proofs.Ytaklfjjkeebheaa
