/-
  What Kept holds in memory between its rounds: what is to do, in a box; what is kept; the marks of the ranges that are over.
-/
import Derived.Test.YtcdgfnocjnampaaSlA
import Derived.Test.YtcdgfnocjnampaaSlI
import Derived.Test.YtcdgfnocjnampaaSlB
namespace Go.Proofs.Ytcdgfnocjnampaa
set_option linter.unusedVariables false
set_option linter.unusedSimpArgs false
set_option linter.unusedVariables false
open Go Go.RowKit
def natI (l : List Nat) : List Int := l.map fun i : Nat => (i : Int)
theorem natI_len (l : List Nat) : (natI l).length = l.length := List.length_map ..
theorem natI_snoc (l : List Nat) (i : Nat) : natI (l ++ [i]) = natI l ++ [(i : Int)] := by unfold natI; rw [List.map_append]; rfl
def natV (l : List Nat) : List Value := l.map fun i : Nat => .int .i64 (i : Int)
theorem natV_len (l : List Nat) : (natV l).length = l.length := List.length_map ..
theorem natV_one (l : List Nat) : ∀ u ∈ natV l, u.oneCell' = true := by
  intro u hu
  obtain ⟨i, _, rfl⟩ := List.mem_map.1 hu
  rfl
theorem natV_ins (l : List Nat) (i : Nat) : (natV l).take (placeN l i) ++ [.int .i64 (i : Int)] ++ (natV l).drop (placeN l i) = natV (insN l i) := by
  unfold natV insN
  rw [List.map_append, List.map_cons, List.map_take, List.map_drop, List.append_assoc]
  rfl
theorem rdNats_of_own {W : World} {n₀ e : Nat} {v : Value} {l : List Nat} (h : W.ownsRow n₀ e 1 v l.length (natV l)) : RdNats W l v := by
  have h0 := h
  rcases h.2 with ⟨rfl, hn⟩ | ⟨g, cap, cur, rfl, hb, hg, h1, h2, h3, h4⟩
  · exact ⟨none, 0, by rw [hn], fun hne => absurd (List.eq_nil_of_length_eq_zero hn) hne⟩
  · refine ⟨_, cap, rfl, fun _ => ⟨g, 0, rfl, fun k hk => ?_⟩⟩
    rw [Nat.zero_add, h0.cellAt k (by omega)]
    unfold natV
    rw [List.getElem?_map, List.getElem?_eq_getElem hk]; rfl
/-- The marks of the ranges that are over. -/
def Marks (Ds : List Nat) (W : World) : Prop := Ds.Nodup ∧ ∀ D ∈ Ds, W.heap[D]? = some (.deferred (some []))
theorem Marks.lt {Ds : List Nat} {W : World} (h : Marks Ds W) : ∀ D ∈ Ds, D < W.heap.size := fun D hD => (Array.getElem?_eq_some_iff.1 (h.2 D hD)).1
def markD (D : Nat) : Deferred := { target := .collected D, args := #[] }
def takeD (Ds : List Nat) (W : World) : World := Ds.foldl (fun W D => W.putObj D (.deferred none)) W
theorem leaves_marks {F : Fence} {n : Nat} {P : Program} {fn : Func} {tmps : Array Value} {R : Ending → World → Prop} : ∀ (Ds : List Nat) (W : World), Marks Ds W → LeavesInM F n P fn tmps R [] .returning (takeD Ds W) → LeavesInM F n P fn tmps R (Ds.map markD) .returning W
  | [], W, _, h => h
  | D :: Ds, W, hm, h => by
    have hD := hm.2 D (List.mem_cons_self ..)
    have hn := List.nodup_cons.1 hm.1
    refine ⟨by simp, .inl ⟨D, _, rfl, run_takeDeferred hD, ?_⟩⟩
    refine leaves_marks Ds _ ⟨hn.2, fun D' hD' => ?_⟩ h
    have hne : D' ≠ D := fun e => hn.1 (by rw [← e]; exact hD')
    rw [World.putObj_heap_other hne]
    exact hm.2 D' (List.mem_cons_of_mem _ hD')
theorem takeD_block {W : World} : ∀ (Ds : List Nat) (W : World) (k : Nat), k ∉ Ds → (takeD Ds W).heap[k]? = W.heap[k]?
  | [], W, k, _ => rfl
  | D :: Ds, W, k, h => by
    show (takeD Ds (W.putObj D (.deferred none))).heap[k]? = _
    rw [takeD_block (W := W) Ds _ k (fun hm => h (List.mem_cons_of_mem _ hm)), World.putObj_heap_other (fun e => h (by rw [e]; exact List.mem_cons_self ..))]
theorem takeD_out : ∀ (Ds : List Nat) (W : World), (takeD Ds W).os = W.os ∧ (takeD Ds W).tape = W.tape ∧ (takeD Ds W).output = W.output ∧ (takeD Ds W).heap.size = W.heap.size
  | [], W => ⟨rfl, rfl, rfl, rfl⟩
  | D :: Ds, W => by
    obtain ⟨h1, h2, h3, h4⟩ := takeD_out Ds (W.putObj D (.deferred none))
    exact ⟨h1, h2, h3, h4.trans (by simp [World.putObj])⟩
/-- What Kept holds between its rounds. -/
structure KW (w0 : World) (bx : Nat) (vo : Value) (Ds todo out : List Nat) (v : Value) (W : World) : Prop where
  box : Blk W bx #[v] 23
  todo : QRow 3 w0.heap.size W v (natI todo)
  out : W.ownsRow w0.heap.size 3 1 vo out.length (natV out)
  sep : ∀ g, vo.ownBlock = some g → v.ownBlock ≠ some g
  low : Below w0.heap.size w0 W
  marks : Marks Ds W
  mlow : ∀ D ∈ Ds, w0.heap.size ≤ D
theorem outs_ne {W : World} {n₀ e size n : Nat} {v : Value} {xs : List Value} (h : W.ownsRow n₀ e size v n xs) {b : Nat} {o : Obj} (hb : W.heap[b]? = some o) (ho : ∀ c, o ≠ .cells c e (0, 0)) : v.ownBlock = none ∨ v.ownBlock ≠ some b := by
  rcases h.2 with ⟨rfl, _⟩ | ⟨g, cap, cur, rfl, _, hg, _⟩
  · exact .inl rfl
  · refine .inr fun e' => ?_
    have : g = b := by simpa [Value.ownBlock] using e'
    subst this
    rw [hg] at hb
    cases hb
    exact ho _ rfl
theorem marks_grew {Ds : List Nat} {W W' : World} {row : Option Nat} (h : Marks Ds W) (hg : W.grownBy W' row) (hr : ∀ D ∈ Ds, some D ≠ row) : Marks Ds W' :=
  ⟨h.1, fun D hD => by rw [hg.block D (h.lt D hD) (hr D hD)]; exact h.2 D hD⟩
theorem KW.grew {w0 : World} {bx : Nat} {vo : Value} {Ds todo out : List Nat} {v : Value} {W W' : World} (h : KW w0 bx vo Ds todo out v W) {row : Option Nat} (hg : W.grownBy W' row) (h1 : some bx ≠ row) (h2 : v.ownBlock = none ∨ v.ownBlock ≠ row) (h3 : vo.ownBlock = none ∨ vo.ownBlock ≠ row) (h4 : ∀ D ∈ Ds, some D ≠ row) (h5 : ∀ k, row = some k → w0.heap.size ≤ k) : KW w0 bx vo Ds todo out v W' :=
  ⟨h.box.grew hg h1, h.todo.kept hg h2, h.out.kept hg h3, h.sep, h.low.grown hg h.low.size h5, marks_grew h.marks hg h4, h.mlow⟩
theorem KW.still {w0 : World} {bx : Nat} {vo : Value} {Ds todo out : List Nat} {v : Value} {W W' : World} (h : KW w0 bx vo Ds todo out v W) (hb : Below W.heap.size W W') : KW w0 bx vo Ds todo out v W' :=
  h.grew (row := none) ⟨hb.os, hb.tape, hb.output, hb.size, fun k hk _ => hb.block k hk⟩ (by simp) (by cases v.ownBlock <;> simp) (by cases vo.ownBlock <;> simp) (by simp) (fun k e => by cases e)
/-- What is no cells, and none of the marks, is turned. -/
theorem KW.noCells {w0 : World} {bx : Nat} {vo : Value} {Ds todo out : List Nat} {v : Value} {W W' : World} (h : KW w0 bx vo Ds todo out v W) {row : Option Nat} (hg : W.grownBy W' row) {B : Nat} (hB : w0.heap.size ≤ B) (hD : ∀ D ∈ Ds, D < B) (hr : ∀ r, row = some r → B ≤ r ∧ ∃ o : Obj, W.heap[r]? = some o ∧ o.isCells = false) : KW w0 bx vo Ds todo out v W' :=
  ⟨h.box.noCells hg (fun r e => (hr r e).2), h.todo.noCells hg (fun r e => (hr r e).2),
    h.out.kept hg (by
      rcases hrow : row with _ | r
      · cases vo.ownBlock <;> simp
      · obtain ⟨_, o, ho, hc⟩ := hr r hrow
        exact outs_ne h.out ho (fun c e => by rw [e] at hc; cases hc)),
    h.sep, h.low.grown hg h.low.size (fun k e => Nat.le_trans hB (hr k e).1), marks_grew h.marks hg (fun D hm e => by have := (hr D e.symm).1; have := hD D hm; omega), h.mlow⟩
/-- The box is stored into. -/
theorem KW.stored {w0 : World} {bx : Nat} {vo : Value} {Ds todo out : List Nat} {v v' : Value} {todo' : List Nat} {W : World} (h : KW w0 bx vo Ds todo out v W) (hq : QRow 3 w0.heap.size W v' (natI todo')) (hs : ∀ g, vo.ownBlock = some g → v'.ownBlock ≠ some g) (hbx : w0.heap.size ≤ bx) : KW w0 bx vo Ds todo' out v' (W.setCell ⟨bx, 0, none⟩ v') := by
  have hg : W.grownBy (W.setCell ⟨bx, 0, none⟩ v') (some bx) := ⟨rfl, rfl, rfl, by simp [World.setCell], fun k _ hk => Below.heap_setCell _ _ _ k (fun e => hk (by rw [e]))⟩
  refine ⟨by simpa using h.box.set 0 v', hq.other h.box (by decide) v', h.out.kept hg ?_, hs, h.low.grown hg h.low.size (fun k e => by cases e; exact hbx), marks_grew h.marks hg (fun D hm e => ?_), h.mlow⟩
  · have hb := h.box
    unfold Blk at hb
    exact outs_ne h.out hb (fun c e => by injection e with _ e _; exact absurd e (by decide))
  · cases e
    have hb := h.box
    unfold Blk at hb
    rw [h.marks.2 bx hm] at hb
    cases hb
/-- One number more is to do: behind the append, and the store. -/
theorem KW.pushed {w0 : World} {bx : Nat} {vo : Value} {Ds todo out : List Nat} {v v' : Value} {i : Nat} {W W1 : World} (h : KW w0 bx vo Ds todo out v W) (hq : QRow 3 w0.heap.size W1 v' (natI todo ++ [(i : Int)])) (hg : W.grownBy W1 v.ownBlock) (ho : v'.ownBlock = v.ownBlock ∨ ∃ q, v'.ownBlock = some q ∧ W.heap.size ≤ q) (hbx : w0.heap.size ≤ bx) :
    KW w0 bx vo Ds (todo ++ [i]) out v' (W1.setCell ⟨bx, 0, none⟩ v') ∧ Blk W1 bx #[v] 23 := by
  have hvlt := h.todo.lt
  have hsep : ∀ g, vo.ownBlock = some g → v.ownBlock ≠ some g := h.sep
  have hout : W1.ownsRow w0.heap.size 3 1 vo out.length (natV out) := h.out.kept hg (by
    rcases hv : vo.ownBlock with _ | g
    · exact .inl rfl
    · exact .inr (fun e => hsep g hv e.symm))
  have hbox : Blk W1 bx #[v] 23 := h.box.grew hg (h.todo.ne h.box (by decide))
  have hmk : ∀ D ∈ Ds, some D ≠ v.ownBlock := by
    intro D hD e
    obtain ⟨_, _, cur, hc⟩ := hvlt D e.symm
    rw [h.marks.2 D hD] at hc; cases hc
  have hlow : Below w0.heap.size w0 W1 := h.low.grown hg h.low.size (fun k e => (hvlt k e).1)
  have hs' : ∀ g, vo.ownBlock = some g → v'.ownBlock ≠ some g := by
    intro g hgv e
    rcases ho with ho | ⟨q, ho, hq'⟩
    · exact hsep g hgv (ho ▸ e)
    · have : q = g := by rw [ho] at e; cases e; rfl
      subst this
      have := (h.out.lt q hgv).2
      omega
  have h' : KW w0 bx vo Ds todo out v W1 ∨ True := .inr trivial
  have hgs : W1.grownBy (W1.setCell ⟨bx, 0, none⟩ v') (some bx) := ⟨rfl, rfl, rfl, by simp [World.setCell], fun k _ hk => Below.heap_setCell _ _ _ k (fun e => hk (by rw [e]))⟩
  have hm1 := marks_grew h.marks hg hmk
  refine ⟨⟨by simpa using hbox.set 0 v', by rw [natI_snoc]; exact hq.other hbox (by decide) v', hout.kept hgs ?_, hs', hlow.grown hgs hlow.size (fun k e => by cases e; exact hbx), marks_grew hm1 hgs (fun D hm e => ?_), h.mlow⟩, hbox⟩
  · have hb := hbox
    unfold Blk at hb
    exact outs_ne hout hb (fun c e => by injection e with _ e _; exact absurd e (by decide))
  · cases e
    have hb := hbox
    unfold Blk at hb
    rw [hm1.2 bx hm] at hb
    cases hb
/-- One more is kept: behind slices.Insert. -/
theorem KW.inserted {w0 : World} {bx : Nat} {vo vo' : Value} {Ds todo out out' : List Nat} {v : Value} {W W1 : World} (h : KW w0 bx vo Ds todo out v W) (ho : W1.ownsRow w0.heap.size 3 1 vo' out'.length (natV out')) (hg : W.grownBy W1 vo.ownBlock) (hw : vo'.ownBlock = vo.ownBlock ∨ ∃ q, vo'.ownBlock = some q ∧ W.heap.size ≤ q) : KW w0 bx vo' Ds todo out' v W1 := by
  have h2 : v.ownBlock = none ∨ v.ownBlock ≠ vo.ownBlock := by
    rcases hv : v.ownBlock with _ | g
    · exact .inl rfl
    · exact .inr (fun e => h.sep g e.symm hv)
  refine ⟨h.box.grew hg (fun e => ?_), h.todo.kept hg h2, ho, fun g hgv e => ?_, h.low.grown hg h.low.size (fun k e => (h.out.lt k e).1), marks_grew h.marks hg (fun D hm e => ?_), h.mlow⟩
  · rcases h.out.2 with ⟨rfl, _⟩ | ⟨g, cap, cur, rfl, _, hgb, _⟩
    · cases e
    · have hb := h.box
      unfold Blk at hb
      have : bx = g := by simpa [Value.ownBlock] using e
      subst this
      rw [hb] at hgb
      injection hgb with hgb
      injection hgb with _ e2 _
      exact absurd e2 (by decide)
  · rcases hw with hw | ⟨q, hw, hq⟩
    · exact h.sep g (hw ▸ hgv) e
    · have : q = g := by rw [hw] at hgv; cases hgv; rfl
      subst this
      have := (h.todo.lt q e).2.1
      omega
  · rcases h.out.2 with ⟨rfl, _⟩ | ⟨g, cap, cur, rfl, _, hgb, _⟩
    · cases e
    · have : D = g := by simpa [Value.ownBlock] using e
      subst this
      rw [h.marks.2 D hm] at hgb; cases hgb
/-- A range is over: its mark. -/
theorem KW.marked {w0 : World} {bx : Nat} {vo : Value} {Ds todo out : List Nat} {v : Value} {W : World} (h : KW w0 bx vo Ds todo out v W) {D B : Nat} (hB : w0.heap.size ≤ B) (hD : B ≤ D) (hlt : ∀ D' ∈ Ds, D' < B) (hd : W.heap[D]? = some (.deferred (some []))) : KW w0 bx vo (D :: Ds) todo out v W :=
  ⟨h.box, h.todo, h.out, h.sep, h.low, ⟨List.nodup_cons.2 ⟨fun hm => by have := hlt D hm; omega, h.marks.1⟩, fun D' hD' => by
    rcases List.mem_cons.1 hD' with rfl | hm
    · exact hd
    · exact h.marks.2 D' hm⟩, fun D' hD' => by
    rcases List.mem_cons.1 hD' with rfl | hm
    · omega
    · exact h.mlow D' hm⟩
/-- At the end the marks are taken. -/
theorem KW.ended {w0 : World} {bx : Nat} {vo : Value} {Ds todo out : List Nat} {v : Value} {W : World} (h : KW w0 bx vo Ds todo out v W) : (takeD Ds W).ownsRow w0.heap.size 3 1 vo out.length (natV out) ∧ Below w0.heap.size w0 (takeD Ds W) := by
  obtain ⟨e1, e2, e3, e4⟩ := takeD_out Ds W
  constructor
  · refine ⟨h.out.1, ?_⟩
    rcases h.out.2 with hn | ⟨g, cap, cur, rfl, hb, hg, rest⟩
    · exact .inl hn
    · refine .inr ⟨g, cap, cur, rfl, hb, ?_, rest⟩
      rw [takeD_block (W := W) Ds W g (fun hm => by rw [h.marks.2 g hm] at hg; cases hg)]
      exact hg
  · exact ⟨e1.trans h.low.os, e2.trans h.low.tape, e3.trans h.low.output, by rw [e4]; exact h.low.size, fun k hk => by
      rw [takeD_block (W := W) Ds W k (fun hm => by have := h.mlow k hm; omega)]
      exact h.low.block k hk⟩
end Go.Proofs.Ytcdgfnocjnampaa
