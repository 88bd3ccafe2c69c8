/-
  Walk: (pack.reader).setup.
-/
import Derived.Test.YtaklfjjkeebheaaPkD
namespace Go.Proofs.Ytaklfjjkeebheaa
set_option linter.unusedVariables false
set_option linter.unusedSimpArgs false
set_option linter.unusedVariables false
open Go Go.RowKit Go.Lib
section
variable {ops : Array Oper} {l : Nat → Bool} {d : Tmp}
theorem undone_far (h : farOf ops d = true) : ∀ j, dstOf ops j = some d → l j = false := by
  intro j hj
  have hjs : j < ops.size := by
    rcases Nat.lt_or_ge j ops.size with h | h
    · exact h
    · unfold dstOf at hj; rw [Array.getElem?_eq_none h] at hj; simp at hj
  unfold farOf at h
  have := List.all_eq_true.1 h j (List.mem_range.2 hjs)
  simp [hj] at this
end
/-- Some operations turn the world, one behind the other: so many have been. -/
def Stg (marks : List Nat) (S : Nat → World → Prop) (l : Nat → Bool) (w : World) : Prop := ∃ g, g ≤ marks.length ∧ S g w ∧ ∀ i (h : i < marks.length), l marks[i] = decide (i < g)
section
variable {marks : List Nat} {S : Nat → World → Prop} {l l' : Nat → Bool} {w w' : World}
theorem Stg.ext {n : Nat} (hm : ∀ i (h : i < marks.length), marks[i] < n) (h : ∀ i, i < n → l i = l' i) (H : Stg marks S l w) : Stg marks S l' w := by
  obtain ⟨g, h1, h2, h3⟩ := H
  exact ⟨g, h1, h2, fun i hi => by rw [← h _ (hm i hi)]; exact h3 i hi⟩
theorem Stg.start (h : S 0 w) : Stg marks S (fun _ => false) w := ⟨0, Nat.zero_le _, h, fun i hi => by simp⟩
theorem Stg.put {i : Nat} (H : Stg marks S l w) (h : i ∉ marks) : Stg marks S (doneL l i) w := by
  obtain ⟨g, h1, h2, h3⟩ := H
  refine ⟨g, h1, h2, fun j hj => ?_⟩
  unfold doneL
  rw [if_neg (fun e => h (by rw [← e]; exact List.getElem_mem hj))]
  exact h3 j hj
/-- The i-th of them: all ahead of it have been, none behind it. -/
theorem Stg.at {i : Nat} (H : Stg marks S l w) (hi : i < marks.length) (hl : l marks[i] = false) (hp : ∀ h : 0 < i, l (marks[i - 1]'(by omega)) = true) (hn : marks.Nodup) : S i w ∧ ∀ w', S (i + 1) w' → Stg marks S (doneL l marks[i]) w' := by
  obtain ⟨g, h1, h2, h3⟩ := H
  have e1 : ¬ i < g := by have := h3 i hi; rw [hl] at this; simpa using this.symm
  have e2 : g = i := by
    rcases Nat.eq_zero_or_pos i with h | h
    · omega
    · have := h3 (i - 1) (by omega)
      rw [hp h] at this
      have : i - 1 < g := by simpa using this.symm
      omega
  subst e2
  refine ⟨h2, fun w' hw => ⟨g + 1, by omega, hw, fun j hj => ?_⟩⟩
  unfold doneL
  by_cases hjg : j = g
  · subst hjg; rw [if_pos rfl]; simp
  · have hpw := List.pairwise_iff_getElem.1 hn
    rw [if_neg (fun e => by
      rcases Nat.lt_or_gt_of_ne hjg with h | h
      · exact hpw j g hj hi h e
      · exact hpw g j hi hj h e.symm), h3 j hj]
    have : (j < g) ↔ (j < g + 1) := by omega
    simp [this]
theorem Stg.done (H : Stg marks S (fun _ => true) w) : S marks.length w := by
  obtain ⟨g, h1, h2, h3⟩ := H
  have : g = marks.length := by
    rcases Nat.eq_zero_or_pos marks.length with h | h
    · omega
    · have := h3 (marks.length - 1) (by omega)
      have : marks.length - 1 < g := by simpa using this.symm
      omega
  rw [← this]; exact h2
end
/-- A whole number in a cell. -/
def RdI (w : World) (x : Int) (v : Value) : Prop := v = .int .i64 x ∧ -9223372036854775808 ≤ x ∧ x ≤ 9223372036854775807
/-- A setup as a value. -/
def SuV (x : Su) (w : World) (v : Value) : Prop := ∃ vi vt, v = .agg #[.int .i64 x.st, .int .i64 x.ck, .int .i64 x.tr, vi, vt] ∧ RdSl RdI w x.init vi ∧ RdThs w x.ths vt
theorem infoI64 : (Try.prog.info? 2).map (fun i => (i.zero, i.size, i.bytes)) = some (some (.int .i64 0), 1, 8) := by kernel_rfl
theorem infoTx : (Try.prog.info? 56).map (fun i => (i.zero, i.size, i.bytes)) = some (some (.slice none 0 0), 1, 24) := by kernel_rfl
theorem infoTh : (Try.prog.info? 55).map (fun i => (i.zero, i.size, i.bytes)) = some (some (.slice none 0 0), 1, 24) := by kernel_rfl
/-- What stands while a setup is read: the boxes, the result's cell, the setup's cells. -/
structure SuI (w : World) (rb : Nat) (s : ByteArray) (r : Rdr) (a b c vi vt : Value) (W : World) : Prop where
  rd : RdM W rb s r
  bx : Blk W w.heap.size #[.pointer (some ⟨rb, 0, none⟩)] 43
  o : Blk W (w.heap.size + 1) #[.int .i64 0, .int .i64 0, .int .i64 0, .slice none 0 0, .slice none 0 0] 27
  sb : Blk W (w.heap.size + 2) #[a, b, c, vi, vt] 27
  turn : Turn [rb] w W
section
variable {w W W' : World} {rb : Nat} {s : ByteArray} {r r' : Rdr} {a b c vi vt : Value}
theorem SuI.call (h : SuI w rb s r a b c vi vt W) (hl : rb < w.heap.size) (hk : Kept r r') (hT : Turn [rb] W W') (hr : RdrAt W' rb s r'.at_ r'.err) : SuI w rb s r' a b c vi vt W' :=
  ⟨h.rd.kept hk hr, hT.blk (by simp; omega) h.bx, hT.blk (by simp; omega) h.o, hT.blk (by simp; omega) h.sb, h.turn.trans hT⟩
theorem SuI.below (h : SuI w rb s r a b c vi vt W) (hb : Below W.heap.size W W') : SuI w rb s r a b c vi vt W' :=
  ⟨h.rd.below hb, h.bx.below hb, h.o.below hb, h.sb.below hb, h.turn.trans (Turn.of_below hb)⟩
/-- A row of the call's own has grown. -/
theorem SuI.app (h : SuI w rb s r a b c vi vt W) (hl : rb < w.heap.size) {o : Obj} {row : Option Nat} (hg : (W.alloc o).grownBy W' row) (hr : ∀ g, row = some g → w.heap.size + 3 ≤ g) : SuI w rb s r a b c vi vt W' := by
  have hat : ∀ j, j < W.heap.size → j < w.heap.size + 3 → W'.heap[j]? = W.heap[j]? := fun j h1 h2 => grown_at hg h1 (fun e => by have := hr j e; omega)
  have h3 := h.sb.lt
  exact ⟨⟨(hat rb (by omega) (by omega)).trans h.rd.blk, h.rd.s_, h.rd.at_, h.rd.sz⟩, (hat _ (by omega) (by omega)).trans h.bx, (hat _ (by omega) (by omega)).trans h.o, (hat _ (by omega) (by omega)).trans h.sb,
    (h.turn.trans (Turn.of_below (ext_alloc (ext_refl W) o))).grown hg (fun g hg => by have := hr g hg; omega)⟩
theorem SuI.set3 (h : SuI w rb s r a b c vi vt W) (hl : rb < w.heap.size) (v : Value) : SuI w rb s r a b c v vt (W.setCell ⟨w.heap.size + 2, 3, none⟩ v) :=
  ⟨⟨Blk.set_other h.rd.blk ⟨w.heap.size + 2, 3, none⟩ v (by dsimp only; omega), h.rd.s_, h.rd.at_, h.rd.sz⟩, h.bx.set_other ⟨w.heap.size + 2, 3, none⟩ v (by dsimp only; omega), h.o.set_other ⟨w.heap.size + 2, 3, none⟩ v (by dsimp only; omega), by simpa using h.sb.set 3 v, h.turn.setCell (Or.inr (by dsimp only; omega)) v⟩
theorem SuI.set4 (h : SuI w rb s r a b c vi vt W) (hl : rb < w.heap.size) (v : Value) : SuI w rb s r a b c vi v (W.setCell ⟨w.heap.size + 2, 4, none⟩ v) :=
  ⟨⟨Blk.set_other h.rd.blk ⟨w.heap.size + 2, 4, none⟩ v (by dsimp only; omega), h.rd.s_, h.rd.at_, h.rd.sz⟩, h.bx.set_other ⟨w.heap.size + 2, 4, none⟩ v (by dsimp only; omega), h.o.set_other ⟨w.heap.size + 2, 4, none⟩ v (by dsimp only; omega), by simpa using h.sb.set 4 v, h.turn.setCell (Or.inr (by dsimp only; omega)) v⟩
theorem SuI.set0 (h : SuI w rb s r a b c vi vt W) (hl : rb < w.heap.size) (v : Value) : SuI w rb s r v b c vi vt (W.setCell ⟨w.heap.size + 2, 0, none⟩ v) :=
  ⟨⟨Blk.set_other h.rd.blk ⟨w.heap.size + 2, 0, none⟩ v (by dsimp only; omega), h.rd.s_, h.rd.at_, h.rd.sz⟩, h.bx.set_other ⟨w.heap.size + 2, 0, none⟩ v (by dsimp only; omega), h.o.set_other ⟨w.heap.size + 2, 0, none⟩ v (by dsimp only; omega), by simpa using h.sb.set 0 v, h.turn.setCell (Or.inr (by dsimp only; omega)) v⟩
theorem SuI.set1 (h : SuI w rb s r a b c vi vt W) (hl : rb < w.heap.size) (v : Value) : SuI w rb s r a v c vi vt (W.setCell ⟨w.heap.size + 2, 1, none⟩ v) :=
  ⟨⟨Blk.set_other h.rd.blk ⟨w.heap.size + 2, 1, none⟩ v (by dsimp only; omega), h.rd.s_, h.rd.at_, h.rd.sz⟩, h.bx.set_other ⟨w.heap.size + 2, 1, none⟩ v (by dsimp only; omega), h.o.set_other ⟨w.heap.size + 2, 1, none⟩ v (by dsimp only; omega), by simpa using h.sb.set 1 v, h.turn.setCell (Or.inr (by dsimp only; omega)) v⟩
theorem SuI.set2 (h : SuI w rb s r a b c vi vt W) (hl : rb < w.heap.size) (v : Value) : SuI w rb s r a b v vi vt (W.setCell ⟨w.heap.size + 2, 2, none⟩ v) :=
  ⟨⟨Blk.set_other h.rd.blk ⟨w.heap.size + 2, 2, none⟩ v (by dsimp only; omega), h.rd.s_, h.rd.at_, h.rd.sz⟩, h.bx.set_other ⟨w.heap.size + 2, 2, none⟩ v (by dsimp only; omega), h.o.set_other ⟨w.heap.size + 2, 2, none⟩ v (by dsimp only; omega), by simpa using h.sb.set 2 v, h.turn.setCell (Or.inr (by dsimp only; omega)) v⟩
end
/-- The setup is handed over. -/
theorem su_out {w W : World} {rb : Nat} {s : ByteArray} {r : Rdr} {x : Su} {vi vt : Value} (h : SuI w rb s r (.int .i64 x.st) (.int .i64 x.ck) (.int .i64 x.tr) vi vt W) (hl : rb < w.heap.size)
    (hi : ∀ w'', Agree (w.heap.size + 3) W.heap.size W w'' → RdSl RdI w'' x.init vi) (ht : ∀ w'', Agree (w.heap.size + 3) W.heap.size W w'' → RdThs w'' x.ths vt) :
    ReadG (SuV x) rb s r w (.returned (.agg #[.int .i64 x.st, .int .i64 x.ck, .int .i64 x.tr, vi, vt])) (((((W.setCell ⟨w.heap.size + 1, 0, none⟩ (.int .i64 x.st)).setCell ⟨w.heap.size + 1, 1, none⟩ (.int .i64 x.ck)).setCell ⟨w.heap.size + 1, 2, none⟩ (.int .i64 x.tr)).setCell ⟨w.heap.size + 1, 3, none⟩ vi).setCell ⟨w.heap.size + 1, 4, none⟩ vt) := by
  have hne : rb ≠ w.heap.size + 1 := by omega
  refine ⟨_, rfl, ((((Blk.set_other h.rd.blk _ _ hne).set_other _ _ hne).set_other _ _ hne).set_other _ _ hne).set_other _ _ hne, ((((h.turn.setCell (Or.inr (by dsimp only; omega)) _).setCell (Or.inr (by dsimp only; omega)) _).setCell (Or.inr (by dsimp only; omega)) _).setCell (Or.inr (by dsimp only; omega)) _).setCell (Or.inr (by dsimp only; omega)) _, fun w'' hw => ?_⟩
  simp only [size_setCell] at hw
  have hA : Agree (w.heap.size + 3) W.heap.size W w'' := (((((Agree.set _ _ (by dsimp only; omega)).trans (Agree.set _ _ (by dsimp only; omega))).trans (Agree.set _ _ (by dsimp only; omega))).trans (Agree.set _ _ (by dsimp only; omega))).trans (Agree.set _ _ (by dsimp only; omega))).trans (hw.sub (by omega) (Nat.le_refl _))
  exact ⟨vi, vt, rfl, hi w'' hA, ht w'' hA⟩
theorem rdThs_nil (w : World) : RdThs w [] (.slice none 0 0) := ⟨none, 0, rfl, by simp, fun h => absurd rfl h⟩
end Go.Proofs.Ytaklfjjkeebheaa
