/-
  Joined texts: SlQ SlW1 SlW2 SlA ShelfI SlI SlB SlK SlKp.
-/
import Derived.Test.YtnmbacleaijhmaaDoorSgD
import Derived.ArgAppend
import Derived.OwnWalkIn
import Derived.Laws.OwnMore
import Derived.RangeFuncSeq
import Derived.RangeFuncKeeps
import Derived.Test.YtnmbacleaijhmaaDoorProg
import Derived.WalkKit
import Derived.Deep.DeepCutAuto
import Derived.Deep.CutBlock
import Derived.BigQuiet
import Derived.RangeFuncNested
import Derived.RangeFuncBound
import Derived.RangeFuncCalls
import Derived.RangeFuncLeaves
import Derived.RangeFuncBox
import Derived.TacticsInMore
import Derived.LoopNIn
import Derived.LoopIn
import Derived.Test.YtnmbacleaijhmaaDoorRgF
import Derived.Shelf.Spec.SlicesInsertGrow
import Derived.Ground.Names2Prog
/-
  A queue of numbers: a slice of the call's own that may begin within its block; one number more at its end, one fewer at its head. Said of any program.
-/
namespace Go.Proofs.YtnmbacleaijhmaaDoor
set_option linter.unusedVariables false
set_option linter.unusedSimpArgs false
set_option linter.unusedVariables false
open Go Go.RowKit
def QRow (e : TypeId) (n₀ : Nat) (W : World) (v : Value) (xs : List Int) : Prop :=
  (v = .slice none 0 0 ∧ xs = []) ∨ ∃ g off cap cur, v = .slice (some ⟨g, off, none⟩) xs.length cap ∧ n₀ ≤ g ∧ W.heap[g]? = some (.cells cur e (0, 0)) ∧ xs.length ≤ cap ∧ off + cap ≤ cur.size ∧ cap ≤ maxLen ∧ ∀ j (h : j < xs.length), cur[off + j]? = some (.int .i64 xs[j])
theorem own_mono {w : World} {base base' : Nat} {e : TypeId} {size : Nat} {v : Value} {n : Nat} {xs : List Value} (h : w.ownsRow base e size v n xs) (hb : base' ≤ base) : w.ownsRow base' e size v n xs :=
  ⟨h.1, h.2.imp id fun ⟨g, cap, cur, h1, h2, h3⟩ => ⟨g, cap, cur, h1, Nat.le_trans hb h2, h3⟩⟩
theorem QRow.nil (e : TypeId) (n₀ : Nat) (W : World) : QRow e n₀ W (.slice none 0 0) [] := .inl ⟨rfl, rfl⟩
theorem QRow.of_own {e n₀ : Nat} {W : World} {v : Value} {xs : List Int} (h : W.ownsRow n₀ e 1 v xs.length (xs.map (.int .i64))) : QRow e n₀ W v xs := by
  rcases h.2 with ⟨rfl, h0⟩ | ⟨g, cap, cur, rfl, hb, hg, h1, h2, h3, h4⟩
  · exact .inl ⟨rfl, List.eq_nil_of_length_eq_zero h0⟩
  · refine .inr ⟨g, 0, cap, cur, rfl, hb, hg, h1, by omega, h2, fun j hj => ?_⟩
    have : (xs.map (Value.int .i64))[j]? = some (.int .i64 xs[j]) := by rw [List.getElem?_map, List.getElem?_eq_getElem hj]; rfl
    rw [← h4, List.getElem?_take, if_pos (by omega), Array.getElem?_toList] at this
    rw [Nat.zero_add]; exact this
theorem QRow.shape {e n₀ : Nat} {W : World} {v : Value} {xs : List Int} (h : QRow e n₀ W v xs) : ∃ a cap, v = .slice a xs.length cap := by
  rcases h with ⟨rfl, rfl⟩ | ⟨g, off, cap, cur, rfl, _⟩
  · exact ⟨none, 0, rfl⟩
  · exact ⟨_, _, rfl⟩
theorem QRow.lt {e n₀ : Nat} {W : World} {v : Value} {xs : List Int} (h : QRow e n₀ W v xs) : ∀ g, v.ownBlock = some g → n₀ ≤ g ∧ g < W.heap.size ∧ ∃ cur, W.heap[g]? = some (.cells cur e (0, 0)) := by
  intro g hg
  rcases h with ⟨rfl, _⟩ | ⟨g', off, cap, cur, rfl, hb, hh, _⟩
  · simp [Value.ownBlock] at hg
  · obtain rfl : g' = g := by simpa [Value.ownBlock] using hg
    exact ⟨hb, (Array.getElem?_eq_some_iff.1 hh).1, cur, hh⟩
theorem QRow.kept {e n₀ : Nat} {W W' : World} {v : Value} {xs : List Int} {row : Option Nat} (h : QRow e n₀ W v xs) (hg : W.grownBy W' row) (hne : v.ownBlock = none ∨ v.ownBlock ≠ row) : QRow e n₀ W' v xs := by
  rcases h with h | ⟨g, off, cap, cur, rfl, hb, hh, rest⟩
  · exact .inl h
  · refine .inr ⟨g, off, cap, cur, rfl, hb, ?_, rest⟩
    rw [hg.block g (Array.getElem?_eq_some_iff.1 hh).1 (by simpa [Value.ownBlock] using hne)]
    exact hh
theorem QRow.calm {e n₀ : Nat} {W W' : World} {v : Value} {xs : List Int} (h : QRow e n₀ W v xs) (hg : W.grownBy W' none) : QRow e n₀ W' v xs := h.kept hg (by cases v.ownBlock <;> simp)
theorem QRow.below {e n₀ : Nat} {W W' : World} {v : Value} {xs : List Int} (h : QRow e n₀ W v xs) (hb : Below W.heap.size W W') : QRow e n₀ W' v xs := h.calm ⟨hb.os, hb.tape, hb.output, hb.size, fun k hk _ => hb.block k hk⟩
theorem QRow.alloc {e n₀ : Nat} {W : World} {v : Value} {xs : List Int} (h : QRow e n₀ W v xs) (o : Obj) : QRow e n₀ (W.alloc o) v xs := h.calm (World.grownBy_alloc _ _ _)
theorem QRow.drew {e n₀ : Nat} {W : World} {v : Value} {xs : List Int} (h : QRow e n₀ W v xs) : QRow e n₀ W.drew v xs := h
/-- A block of another type is turned. -/
theorem QRow.other {e n₀ : Nat} {W : World} {v : Value} {xs : List Int} (h : QRow e n₀ W v xs) {b o : Nat} {cs : Array Value} {t : TypeId} (hb : Blk W b cs t) (ht : t ≠ e) (u : Value) : QRow e n₀ (W.setCell ⟨b, o, none⟩ u) v xs := by
  refine h.kept (row := some b) ⟨rfl, rfl, rfl, by simp [World.setCell], fun k _ hk => Below.heap_setCell _ _ _ k (fun e => hk (by rw [e]))⟩ (.inr fun hv => ?_)
  obtain ⟨_, _, cur, hc⟩ := h.lt b hv
  unfold Blk at hb
  rw [hb] at hc
  cases hc
  exact ht rfl
theorem QRow.ne {e n₀ : Nat} {W : World} {v : Value} {xs : List Int} (h : QRow e n₀ W v xs) {b : Nat} {cs : Array Value} {t : TypeId} (hb : Blk W b cs t) (ht : t ≠ e) : some b ≠ v.ownBlock := by
  intro hv
  obtain ⟨_, _, cur, hc⟩ := h.lt b hv.symm
  unfold Blk at hb
  rw [hb] at hc
  cases hc
  exact ht rfl
theorem QRow.noCells {e n₀ : Nat} {W W' : World} {v : Value} {xs : List Int} (h : QRow e n₀ W v xs) {row : Option Nat} (hg : W.grownBy W' row) (hr : ∀ r, row = some r → ∃ o : Obj, W.heap[r]? = some o ∧ o.isCells = false) : QRow e n₀ W' v xs := by
  refine h.kept hg ?_
  rcases hv : v.ownBlock with _ | g
  · exact .inl rfl
  · refine .inr fun e' => ?_
    obtain ⟨_, _, cur, hc⟩ := h.lt g hv
    obtain ⟨o, ho, h1⟩ := hr g e'.symm
    rw [hc] at ho; cases ho; cases h1
theorem Blk.noCells {W W' : World} {b : Nat} {cs : Array Value} {t : TypeId} (h : Blk W b cs t) {row : Option Nat} (hg : W.grownBy W' row) (hr : ∀ r, row = some r → ∃ o : Obj, W.heap[r]? = some o ∧ o.isCells = false) : Blk W' b cs t := by
  unfold Blk at h ⊢
  rw [hg.block b (Array.getElem?_eq_some_iff.1 h).1 (fun e => by obtain ⟨o, ho, h1⟩ := hr b e.symm; rw [h] at ho; cases ho; cases h1)]
  exact h
theorem Blk.grew {W W' : World} {b : Nat} {cs : Array Value} {t : TypeId} {row : Option Nat} (h : Blk W b cs t) (hg : W.grownBy W' row) (hne : some b ≠ row) : Blk W' b cs t := by
  unfold Blk at h ⊢
  rw [hg.block b (Array.getElem?_eq_some_iff.1 h).1 hne]; exact h
/-- The head. -/
theorem QRow.head {e n₀ : Nat} {W : World} {v : Value} {x : Int} {xs : List Int} (h : QRow e n₀ W v (x :: xs)) : ∃ g off cap, v = .slice (some ⟨g, off, none⟩) (xs.length + 1) cap ∧ 1 ≤ cap ∧ xs.length + 1 ≤ cap ∧ cap ≤ maxLen ∧ W.cell? ⟨g, off, none⟩ = some (.int .i64 x) ∧
    QRow e n₀ W (.slice (if cap = 1 then some ⟨g, off, none⟩ else some ⟨g, off + 1, none⟩) xs.length (cap - 1)) xs := by
  rcases h with ⟨_, h⟩ | ⟨g, off, cap, cur, rfl, hb, hh, h1, h2, h3, h4⟩
  · cases h
  · simp only [List.length_cons] at h1 h4 ⊢
    refine ⟨g, off, cap, rfl, by omega, h1, h3, ?_, ?_⟩
    · have := h4 0 (by omega)
      simp only [Nat.add_zero, List.getElem_cons_zero] at this
      simp [World.cell?, hh, this]
    · by_cases hc : cap = 1
      · subst hc
        obtain rfl : xs = [] := List.eq_nil_of_length_eq_zero (by omega)
        exact .inr ⟨g, off, 0, cur, by rw [if_pos rfl], hb, hh, Nat.le_refl _, by omega, by omega, fun j hj => absurd hj (Nat.not_lt_zero _)⟩
      · refine .inr ⟨g, off + 1, cap - 1, cur, by rw [if_neg hc], hb, hh, by omega, by omega, by omega, fun j hj => ?_⟩
        have := h4 (j + 1) (by omega)
        rw [List.getElem_cons_succ] at this
        rw [show off + 1 + j = off + (j + 1) by omega]; exact this
section
variable {P : Program}
/-- One number more. -/
theorem run_append_q (w : World) (n₀ : Nat) (t ty e : TypeId) (i : TypeInfo) (ht : P.underlying t = some (.slice e)) (hi : P.info? e = some i) (hz : i.zero = some (.int .i64 0)) (hsize : i.size = 1) (hby : i.bytes = 8)
    (v : Value) (xs : List Int) (h : QRow e n₀ w v xs) (ad : Addr) (c : Nat) (x : Int) (hx : w.cell? ad = some (.int .i64 x)) (h48 : xs.length + 1 ≤ 17592186044415) (hn : n₀ ≤ w.heap.size) :
    ∃ v' w', (Builtin.append_ #[t, t] ty #[v, .slice (some ad) 1 c]).run P w = .ok v' w' ∧ QRow e n₀ w' v' (xs ++ [x]) ∧ w.grownBy w' v.ownBlock ∧ (v'.ownBlock = v.ownBlock ∨ ∃ q, v'.ownBlock = some q ∧ w.heap.size ≤ q) := by
  have hnews : ∀ j u, [Value.int .i64 x][j]? = some u → w.cell? (ad.add j) = some u := by
    intro j u hu
    rcases j with _ | j
    · simp at hu; subst hu; simpa [Addr.add] using hx
    · simp at hu
  have hz1 : (Value.int .i64 0).cells.size = 1 := rfl
  have hmap : (xs ++ [x]).map (Value.int .i64) = xs.map (Value.int .i64) ++ [Value.int .i64 x] := by rw [List.map_append]; rfl
  have hml : ∀ n : Nat, n ≤ 17592186044415 → n ≤ maxLen := fun n hn => by unfold maxLen; omega
  rcases h with ⟨rfl, rfl⟩ | ⟨g, off, cap, cur, rfl, hb, hh, h1, h2, h3, h4⟩
  · obtain ⟨v', w', hrun, r1, r2, r3⟩ := run_append_own (P := P) w w.heap.size t ty e i (.int .i64 0) 1 8 ht hi hz hsize hby hz1 (by decide) (.slice none 0 0) 0 [] (World.ownsRow_nil w _ e 1) ad 1 c [.int .i64 x] rfl hnews (by simp [Value.oneCell']) (by unfold maxLen; omega) (by omega) (Nat.le_refl _)
    refine ⟨v', w', hrun, QRow.of_own (by simpa using own_mono r1 hn), r2, .inr ?_⟩
    rcases r1.2 with ⟨_, h0⟩ | ⟨g, cap, cur, rfl, hb, _⟩
    · omega
    · exact ⟨g, rfl, hb⟩
  · have hcell : ∀ j, j < xs.length → w.cell? ⟨g, off + j, none⟩ = some (.int .i64 xs[j]!) := fun j hj => by
      simp [World.cell?, hh, h4 j hj, hj]
    by_cases hr : xs.length + 1 ≤ cap
    · have hlt : off + xs.length < cur.size := by omega
      have hrun := run_append_room_cells (P := P) w t ty e i ht hi g off xs.length cap ad 1 c [.int .i64 x] (by rw [hsize]; rfl) hnews (by simp [Value.oneCell']) hr
        (fun j hj => by
          have : j = 0 := by simpa using hj
          subst this
          rw [hsize]
          simp [World.cell?, hh, Array.getElem?_eq_getElem hlt])
        (fun j hj => by simp [World.frozen?, hh])
      rw [hsize, Nat.mul_one] at hrun
      refine ⟨_, _, hrun, .inr ⟨g, off, cap, cur.setIfInBounds (off + xs.length) (.int .i64 x), by simp, hb, ?_, by simpa using hr, by simpa using h2, h3, fun j hj => ?_⟩, ⟨rfl, rfl, rfl, by simp [World.setCells, World.setCell], fun k _ hk => ?_⟩, .inl rfl⟩
      · simp [World.setCells, World.setCell, Array.getElem?_modify, hh]
      · have hj' : j < xs.length + 1 := by simpa using hj
        by_cases he : j = xs.length
        · subst he
          rw [Array.getElem?_setIfInBounds, if_pos rfl, if_pos hlt]
          simp
        · rw [Array.getElem?_setIfInBounds, if_neg (by omega), h4 j (by omega), List.getElem_append_left (by omega)]
      · show (w.setCell ⟨g, off + xs.length, none⟩ _).heap[k]? = _
        exact Below.heap_setCell _ _ _ k (fun e => hk (by rw [e]; rfl))
    · obtain ⟨v', w', hrun, r1, r2⟩ := run_append_arg_grows (P := P) w t ty e i (.int .i64 0) 1 8 ht hi hz hsize hby hz1 (by decide) ⟨g, off, none⟩ xs.length cap (xs.map (.int .i64)) (by simp)
        (fun j u hu => by
          rw [Addr.add_lit]
          rw [List.getElem?_map] at hu
          obtain ⟨y, hy, rfl⟩ := Option.map_eq_some_iff.1 hu
          obtain ⟨hj, rfl⟩ := List.getElem?_eq_some_iff.1 hy
          simp [World.cell?, hh, h4 j hj]) ad 1 c [.int .i64 x] rfl hnews (by omega) (hml _ h48) (by omega)
      refine ⟨v', w', hrun, QRow.of_own (by rw [hmap, List.length_append]; exact own_mono r1 hn), ⟨r2.os, r2.tape, r2.output, r2.size, fun k hk _ => r2.block k hk (by simp)⟩, .inr ?_⟩
      rcases r1.2 with ⟨_, h0⟩ | ⟨g', cap', cur', rfl, hb', _⟩
      · omega
      · exact ⟨g', rfl, hb'⟩
theorem wpList_append_q (w : World) {ops : Array Oper} {rest : List Oper} {o : Oper} {a : Act} {Q : Exit → Act → World → Prop} (hgd : o.guard = none) (s x : Operand) (t : TypeId)
    (ho : o.op = .call { callee := .builtin .append, args := #[s, x], argTypes := #[t, t] }) (n₀ : Nat) (e : TypeId) (i : TypeInfo) (ht : P.underlying t = some (.slice e)) (hi : P.info? e = some i) (hz : i.zero = some (.int .i64 0)) (hsize : i.size = 1) (hby : i.bytes = 8)
    (v : Value) (xs : List Int) (hs : a.eval s = v) (h : QRow e n₀ w v xs) (ad : Addr) (c : Nat) (y : Int) (hx : a.eval x = .slice (some ad) 1 c) (hy : w.cell? ad = some (.int .i64 y)) (h48 : xs.length + 1 ≤ 17592186044415) (hn : n₀ ≤ w.heap.size)
    (hK : ∀ v' w', QRow e n₀ w' v' (xs ++ [y]) → w.grownBy w' v.ownBlock → (v'.ownBlock = v.ownBlock ∨ ∃ q, v'.ownBlock = some q ∧ w.heap.size ≤ q) → wpList P ops Q rest (a.put o.dst v') w') : wpList P ops Q (o :: rest) a w := by
  refine wpList_plain hgd fun K hK' => ?_
  obtain ⟨v', w', hrun, r1, r2, r3⟩ := run_append_q (P := P) w n₀ t o.type e i ht hi hz hsize hby v xs h ad c y hy h48 hn
  unfold Oper.wp
  simp [execOp, ho, resolve, invoke, builtin, hs, hx, hrun, Result.andThen]
  exact hK' _ _ (hK v' w' r1 r2 r3)
theorem wpListIn_append_q {F : Fence} {n : Nat} (w : World) {ops : Array Oper} {rest : List Oper} {o : Oper} {a : Act} {Q : Exit → Act → World → Prop} (hgd : o.guard = none) (s x : Operand) (t : TypeId)
    (ho : o.op = .call { callee := .builtin .append, args := #[s, x], argTypes := #[t, t] }) (n₀ : Nat) (e : TypeId) (i : TypeInfo) (ht : P.underlying t = some (.slice e)) (hi : P.info? e = some i) (hz : i.zero = some (.int .i64 0)) (hsize : i.size = 1) (hby : i.bytes = 8)
    (v : Value) (xs : List Int) (hs : a.eval s = v) (h : QRow e n₀ w v xs) (ad : Addr) (c : Nat) (y : Int) (hx : a.eval x = .slice (some ad) 1 c) (hy : w.cell? ad = some (.int .i64 y)) (h48 : xs.length + 1 ≤ 17592186044415) (hn : n₀ ≤ w.heap.size)
    (hK : ∀ v' w', QRow e n₀ w' v' (xs ++ [y]) → w.grownBy w' v.ownBlock → (v'.ownBlock = v.ownBlock ∨ ∃ q, v'.ownBlock = some q ∧ w.heap.size ≤ q) → wpListIn F n P ops Q rest (a.put o.dst v') w') : wpListIn F n P ops Q (o :: rest) a w := by
  refine wpListIn_plain hgd fun K hK' => ?_
  obtain ⟨v', w', hrun, r1, r2, r3⟩ := run_append_q (P := P) w n₀ t o.type e i ht hi hz hsize hby v xs h ad c y hy h48 hn
  unfold Oper.wpIn
  refine ⟨?_, ?_⟩
  · simp [Oper.about, ho, resolve, Target.leads, Sem.run_pure]
  · rw [Oper.semAt_plain F _ _ (by rw [ho]; intro c hc'; cases hc')]
    simp [execOp, ho, resolve, invoke, builtin, hs, hx, hrun, Result.andThen]
    exact hK' _ _ (hK v' w' r1 r2 r3)
end
end Go.Proofs.YtnmbacleaijhmaaDoor
/-
  Walks: the writer of a version (slices.ContainsFunc with its closure), and the greatest version.
-/
namespace Go.Proofs.YtnmbacleaijhmaaDoor
set_option linter.unusedVariables false
set_option linter.unusedSimpArgs false
set_option linter.unusedVariables false
open Go Go.RowKit
/-- The place of the first pair of a variable; -1: none. -/
def findP (v : Int) : List (Int × Int) → Nat → Int
  | [], _ => -1
  | x :: xs, k => if (x.1 == v) = true then k else findP v xs (k + 1)
theorem findP_any (v : Int) (l : List (Int × Int)) (k : Nat) : decide (0 ≤ findP v l k) = l.any (fun p => p.1 == v) := by
  induction l generalizing k with
  | nil => simp [findP]
  | cons x xs ih =>
    simp only [findP, List.any_cons]
    split
    · rename_i h; simp [h]
    · rename_i h; simp [ih, h]
theorem findP_drop (v : Int) (l : List (Int × Int)) (k : Nat) (h : k < l.length) : findP v (l.drop k) k = if (l[k].1 == v) = true then (k : Int) else findP v (l.drop (k + 1)) (k + 1) := by
  rw [List.drop_eq_getElem_cons h]; rfl
set_option maxRecDepth 100000 in
set_option maxHeartbeats 4000000 in
theorem wrote1_any (p1 p2 v : Int) (b : Nat) (w : World) (h : w.cell? ⟨b, 0, none⟩ = some (.int .i64 v)) :
    Calls Tryd.prog 30 #[.agg #[.int .i64 p1, .int .i64 p2], .pointer (some ⟨b, 0, none⟩)] w fun e w' => e = .returned (.bool (p1 == v)) ∧ Below w.heap.size w w' := by
  have h1 : (w.alloc (.cells #[.int .i64 p1, .int .i64 p2] 67)).cell? ⟨b, 0, none⟩ = some (.int .i64 v) := cell_alloc h
  have hl := lt_of_cell h
  go_enter Tryd.func30, Tryd.ntmps30
  go_wp2_with fail
  go_ret
  exact ⟨rfl, ext_alloc (ext_refl _) _⟩
set_option maxRecDepth 100000 in
set_option maxHeartbeats 4000000 in
theorem index_any (l : List (Int × Int)) (v : Int) (c : Nat) (w : World) (sv : Value) (hr : RdPairs w l sv) (hc : w.cell? ⟨c, 0, none⟩ = some (.int .i64 v)) :
    Calls Tryd.prog 53 #[sv, .func (.func 30) #[] #[.pointer (some ⟨c, 0, none⟩)]] w fun e' w' => e' = .returned (.int .i64 (findP v l 0)) ∧ Below w.heap.size w w' := by
  obtain ⟨a, cap, rfl, hlen, hok, hx⟩ := hr
  have HX := hid hx; clear hx
  go_enter Tryd.func53, Tryd.ntmps53
  go_wp2_with fail
  go_loopw [8] (fun i wr => ∃ k : Nat, k ≤ l.length ∧ i = .int .i64 k ∧ Hid (findP v l 0 = findP v (l.drop k) k) ∧ Below w.heap.size w wr) (fun i _ => l.length - (intOf i).toNat)
  case atStart => exact ⟨0, Nat.zero_le _, rfl, rfl, ext_refl _⟩
  case round =>
    obtain ⟨k, hk, rfl, HF, hb⟩ := hrel
    by_cases hlt : k < l.length
    · obtain ⟨b, off, rfl, hrd⟩ := HX.out (by intro h; subst h; simp at hlt)
      obtain ⟨c0, c1⟩ := hrd k hlt
      have d0 := later hb c0
      have d1 := later hb c1
      have HC := hid (later hb hc)
      have HD := hid (findP_drop v l k hlt)
      clear c0 c1 hrd
      go_wp2_with fail
      refine (wrote1_any _ _ v c _ HC.out).mono ?_
      rintro e w1 ⟨rfl, hb1⟩
      obtain ⟨q, hq⟩ : ∃ q, q = (l[k].1 == v) := ⟨_, rfl⟩
      rw [← hq]
      have HQ := hid hq
      clear hq
      cases q
      · go_wp2_with fail
        go_roundw
        case rel => exact ⟨k + 1, hlt, by go_num, hid (by rw [HF.out, HD.out, ← HQ.out]; simp), ext_trans hb hb1⟩
        case measure => simp [intOf]; omega
      · go_wp2_with fail
        go_ret
        exact ⟨ret_int (by rw [HF.out, HD.out, ← HQ.out]; simp), ext_trans hb hb1⟩
    · obtain rfl : k = l.length := by omega
      go_wp2_with fail
      go_ret
      exact ⟨ret_int (by rw [HF.out]; simp [findP]), hb⟩
set_option maxRecDepth 100000 in
set_option maxHeartbeats 4000000 in
theorem contains_any (l : List (Int × Int)) (v : Int) (c : Nat) (w : World) (sv : Value) (hr : RdPairs w l sv) (hc : w.cell? ⟨c, 0, none⟩ = some (.int .i64 v)) :
    Calls Tryd.prog 29 #[sv, .func (.func 30) #[] #[.pointer (some ⟨c, 0, none⟩)]] w fun e' w' => e' = .returned (.bool (l.any fun p => p.1 == v)) ∧ Below w.heap.size w w' := by
  have HI := hid (index_any l v c w sv hr hc)
  have HF := hid (findP_any v l 0)
  generalize findP v l 0 = i at HI HF
  obtain ⟨q, hq⟩ : ∃ q, q = decide ((0 : Int) ≤ i) := ⟨_, rfl⟩
  have hqi : decide ((0 : Int) ≤ i) = q := hq.symm
  rw [hqi] at HF
  rw [← HF.out]
  obtain ⟨a, cap, rfl⟩ := hr.shape
  clear hr hq
  go_enter Tryd.func29, Tryd.ntmps29
  go_wp2_with fail
  refine HI.out.mono ?_
  rintro e' w1 ⟨rfl, hb1⟩
  cases q
  all_goals
    go_wp2_with fail
    go_ret
    exact ⟨rfl, hb1⟩
set_option maxRecDepth 100000 in
set_option maxHeartbeats 4000000 in
theorem top_any (L : List Att) (w : World) (v : Value) (hr : RdAtts w L v) :
    Calls Tryd.prog 18 #[v] w fun e' w' => e' = .returned (.int .i64 (topL L)) ∧ Below w.heap.size w w' := by
  obtain ⟨a, cap, rfl, hlen, hx⟩ := hr
  have HX := hid hx; clear hx
  go_enter Tryd.func18, Tryd.ntmps18
  go_wp2_with fail
  go_loopw [3, 8] (fun n i wr => ∃ k : Nat, k ≤ L.length ∧ i = .int .i64 k ∧ n = .int .i64 (topK L k) ∧ Below w.heap.size w wr) (fun _ i _ => L.length - (intOf i).toNat)
  case atStart => exact ⟨0, Nat.zero_le _, rfl, rfl, ext_refl _⟩
  case round =>
    obtain ⟨k, hk, rfl, rfl, hb⟩ := hrel
    by_cases hlt : k < L.length
    · obtain ⟨b, off, rfl, hrd⟩ := HX.out (by intro h; subst h; simp at hlt)
      obtain ⟨r, u, hc⟩ := hrd k hlt
      have hc := hc.below hb
      obtain ⟨ar, cr, hr⟩ := hc.reads.shape
      obtain ⟨au, cu, hu⟩ := hc.writes.shape
      have hT : topK L (k + 1) = max (topK L k) L[k].wv := by
        show max (topK L k) (L.getD k Att.zero).wv = _
        rw [List.getD_eq_getElem?_getD, List.getElem?_eq_getElem hlt]; rfl
      subst hr hu
      have d0 := hc.c0
      have d1 := hc.c1
      have d2 := hc.c2
      have d3 := hc.c3
      have d4 := hc.c4
      have d5 := hc.c5
      have d6 := hc.c6
      have d7 := hc.c7
      have d8 := hc.c8
      have hbl := lt_of_cell d0
      have HT := hid hT
      clear hc hrd hT
      go_wp2_with fail
      all_goals
        go_roundw
        case rel => exact ⟨k + 1, hlt, by go_num, (by rw [HT.out]; try (first | go_num | (congr 1; omega))), ext_alloc hb _⟩
        case measure => simp [intOf]; omega
    · obtain rfl : k = L.length := by omega
      go_wp2_with fail
      go_ret
      exact ⟨rfl, hb⟩
end Go.Proofs.YtnmbacleaijhmaaDoor
/-
  Walks: the writer of a version.
-/
namespace Go.Proofs.YtnmbacleaijhmaaDoor
set_option linter.unusedVariables false
set_option linter.unusedSimpArgs false
set_option linter.unusedVariables false
open Go Go.RowKit
theorem writerK_ge (L : List Att) (v most : Int) (k : Nat) : -1 ≤ writerK L v most k ∧ writerK L v most k < k ∨ writerK L v most k = -1 := by
  rcases writerK_is L v most k with ⟨h, _⟩ | ⟨h1, h2, _⟩
  · exact .inr h
  · exact .inl ⟨by omega, h2⟩
theorem writerK_step (L : List Att) (v most : Int) (k : Nat) (h : k < L.length) : writerK L v most (k + 1) = if ((decide (0 < L[k].wv) && decide (L[k].wv ≤ most) && (L[k].writes.any fun p => p.1 == v)) && (decide (writerK L v most k < 0) || decide ((L.getD (writerK L v most k).toNat Att.zero).wv < L[k].wv))) = true then (k : Int) else writerK L v most k := by
  show (if (candB (L.getD k Att.zero) v most && _) = true then _ else _) = _
  rw [show L.getD k Att.zero = L[k] by rw [List.getD_eq_getElem?_getD, List.getElem?_eq_getElem h]; rfl]
  rfl
set_option maxRecDepth 100000 in
set_option maxHeartbeats 4000000 in
theorem writer_any (L : List Att) (v most : Int) (w : World) (sv : Value) (hr : RdAtts w L sv) :
    Calls Tryd.prog 19 #[sv, .int .i64 v, .int .i64 most] w fun e' w' => e' = .returned (.int .i64 (writerL L v most)) ∧ Below w.heap.size w w' := by
  obtain ⟨a, cap, rfl, hlen, hx⟩ := hr
  have HX := hid hx; clear hx
  go_enter Tryd.func19, Tryd.ntmps19
  go_wp2_with fail
  go_loopw [7, 13] (fun n i wr => ∃ k : Nat, k ≤ L.length ∧ i = .int .i64 k ∧ n = .int .i64 (writerK L v most k) ∧ Hid (Below w.heap.size w wr) ∧ wr.cell? ⟨w.heap.size, 0, none⟩ = some (.int .i64 v)) (fun _ i _ => L.length - (intOf i).toNat)
  case atStart => exact ⟨0, Nat.zero_le _, rfl, rfl, hid (ext_alloc (ext_refl _) _), (Blk.new _ _ _).cell 0 rfl⟩
  case round =>
    obtain ⟨k, hk, rfl, rfl, HB, hv⟩ := hrel
    by_cases hlt : k < L.length
    · obtain ⟨b, off, rfl, hrd⟩ := HX.out (by intro h; subst h; simp at hlt)
      obtain ⟨r, u, hc⟩ := hrd k hlt
      have hc := hc.below HB.out
      obtain ⟨ar, cr, hr⟩ := hc.reads.shape
      obtain ⟨au, cu, hu⟩ := hc.writes.shape
      have HSt := hid (writerK_step L v most k hlt)
      have hge := writerK_ge L v most k
      subst hr hu
      have d0 := hc.c0
      have d1 := hc.c1
      have d2 := hc.c2
      have d3 := hc.c3
      have d4 := hc.c4
      have d5 := hc.c5
      have d6 := hc.c6
      have d7 := hc.c7
      have d8 := hc.c8
      have hbl := lt_of_cell d0
      have HW := hid hc.writes
      have HLT := hid hlt
      have HV := hid hv
      -- the best one up to here
      have HBest : Hid (∀ j : Nat, j < L.length → wr.cell? ⟨b, off + j * 9 + 5, none⟩ = some (.int .i64 (L.getD j Att.zero).wv)) := hid (fun j hj => by
        obtain ⟨r', u', hc'⟩ := hrd j hj
        have := (hc'.below HB.out).c5
        rw [List.getD_eq_getElem?_getD, List.getElem?_eq_getElem hj]
        exact this)
      generalize writerK L v most k = best at *
      clear hc hrd hv
      go_wp2_with fail
      have hA : Below wr.heap.size wr (wr.alloc (.cells #[.int .i64 L[k].th, .int .i64 L[k].tx, .int .i64 L[k].from_, .int .i64 L[k].to_, .int .i64 L[k].rv, .int .i64 L[k].wv, .bool L[k].com, .slice ar L[k].reads.length cr, .slice au L[k].writes.length cu] 27)) := ext_alloc (ext_refl _) _
      have hblk := Blk.new wr #[.int .i64 L[k].th, .int .i64 L[k].tx, .int .i64 L[k].from_, .int .i64 L[k].to_, .int .i64 L[k].rv, .int .i64 L[k].wv, .bool L[k].com, .slice ar L[k].reads.length cr, .slice au L[k].writes.length cu] 27
      refine (contains_any L[k].writes v w.heap.size _ _ (HW.out.below hA) (later hA HV.out)).mono ?_
      rintro e' w1 ⟨rfl, hb1⟩
      have hA1 := ext_trans hA hb1
      have f5 := (hblk.below hb1).cell 5 (v := .int .i64 L[k].wv) rfl
      have HB1 := hid (ext_trans HB.out hA1)
      have HV1 := hid (later hA1 HV.out)
      have HBest1 : Hid (∀ j : Nat, j < L.length → w1.cell? ⟨b, off + j * 9 + 5, none⟩ = some (.int .i64 (L.getD j Att.zero).wv)) := hid (fun j hj => later hA1 (HBest.out j hj))
      have hlw := lt_of_cell f5
      have hbl1 : b < w1.heap.size := Nat.lt_of_lt_of_le hbl hA1.size
      clear d0 d1 d2 d3 d4 d5 d6 d7 d8 hblk hA hb1 hA1 HBest HV HB hbl
      generalize hX : L[k].wv = X at *
      generalize (L[k].writes.any fun p => p.1 == v) = q at *
      by_cases h1 : (0 : Int) < X
      · by_cases h2 : X ≤ most
        · cases q
          · go_wp2_with fail
            go_quiet (fail)
            go_wp2_with fail
            go_roundw
            case rel => exact ⟨k + 1, HLT.out, by go_num, by rw [HSt.out]; simp, hid (ext_drewN HB1.out _), HV1.out⟩
            case measure => have := HLT.out; simp [intOf]; omega
          · by_cases h3 : best < 0
            · go_wp2_with fail
              go_quiet (fail)
              go_wp2_with fail
              go_roundw
              case rel => exact ⟨k + 1, HLT.out, by go_num, by rw [HSt.out]; simp [h1, h2, h3], hid (ext_drewN HB1.out _), HV1.out⟩
              case measure => have := HLT.out; simp [intOf]; omega
            · obtain ⟨j, rfl⟩ : ∃ j : Nat, best = (j : Int) := ⟨best.toNat, by omega⟩
              have hj : j < L.length := by omega
              have j1 : decide ((j : Int) < (L.length : Int)) = true := by rw [decide_eq_true_iff]; omega
              have j2 : (0 : Int) ≤ (j : Int) := by omega
              have j3 : ((j : Int) < (L.length : Int)) := by omega
              have g5 := HBest1.out j hj
              have HS2 := hid (HSt.out)
              rw [show ((j : Int)).toNat = j from Int.toNat_natCast j] at HS2
              generalize (L.getD j Att.zero).wv = Y at *
              have h3' : decide ((j : Int) < 0) = false := by rw [decide_eq_false_iff_not]; omega
              by_cases h4 : Y < X
              · go_wp2_with fail
                go_quiet (fail)
                go_wp2_with fail
                go_roundw
                case rel => exact ⟨k + 1, HLT.out, by go_num, by rw [HS2.out]; simp [h1, h2, h4], hid (ext_drewN HB1.out _), HV1.out⟩
                case measure => have := HLT.out; simp [intOf]; omega
              · have h4' : decide (Y < X) = false := by rw [decide_eq_false_iff_not]; exact h4
                go_wp2_with fail
                go_quiet (fail)
                go_wp2_with fail
                go_roundw
                case rel => exact ⟨k + 1, HLT.out, by go_num, by rw [HS2.out]; simp [h4', h3'], hid (ext_drewN HB1.out _), HV1.out⟩
                case measure => have := HLT.out; simp [intOf]; omega
        · have h2' : decide (X ≤ most) = false := by rw [decide_eq_false_iff_not]; exact h2
          go_wp2_with fail
          go_quiet (fail)
          go_wp2_with fail
          go_roundw
          case rel => exact ⟨k + 1, HLT.out, by go_num, by rw [HSt.out]; simp [h2'], hid (ext_drewN HB1.out _), HV1.out⟩
          case measure => have := HLT.out; simp [intOf]; omega
      · have h1' : decide ((0 : Int) < X) = false := by rw [decide_eq_false_iff_not]; exact h1
        go_wp2_with fail
        go_quiet (fail)
        go_wp2_with fail
        go_roundw
        case rel => exact ⟨k + 1, HLT.out, by go_num, by rw [HSt.out]; simp [h1'], hid (ext_drewN HB1.out _), HV1.out⟩
        case measure => have := HLT.out; simp [intOf]; omega
    · obtain rfl : k = L.length := by omega
      go_wp2_with fail
      go_ret
      exact ⟨rfl, HB.out⟩
end Go.Proofs.YtnmbacleaijhmaaDoor
/-
  Walks: what one attempt asks, as an iterator.
-/
namespace Go.Proofs.YtnmbacleaijhmaaDoor
set_option linter.unusedVariables false
set_option linter.unusedSimpArgs false
set_option linter.unusedVariables false
open Go Go.RowKit
attribute [local go_sem] Oper.semAt_some
def attC (a : Att) (r u : Value) : Array Value := #[.int .i64 a.th, .int .i64 a.tx, .int .i64 a.from_, .int .i64 a.to_, .int .i64 a.rv, .int .i64 a.wv, .bool a.com, r, u]
set_option maxRecDepth 100000 in
set_option maxHeartbeats 4000000 in
theorem asked_any (sv : Value) (x : Option Addr) (n c : Nat) (a : Att) (ar : Option Addr) (nr cr : Nat) (au : Option Addr) (nu cu : Nat) (w : World) (hv : sv = .slice x n c) :
    Calls Tryd.prog 22 #[sv, .agg (attC a (.slice ar nr cr) (.slice au nu cu))] w fun e w' => e = .returned (.func (.func 35) #[] #[.pointer (some ⟨w.heap.size + 1, 0, none⟩), .pointer (some ⟨w.heap.size, 0, none⟩)]) ∧
      w' = (w.alloc (.cells #[sv] 23)).alloc (.cells (attC a (.slice ar nr cr) (.slice au nu cu)) 27) := by
  subst hv
  unfold attC
  go_enter Tryd.func22, Tryd.ntmps22
  go_wp2_with fail
  go_ret
  exact ⟨rfl, rfl⟩
/-- What a round keeps: what lay below, the walks, and the iterator's two boxes. -/
def KeepA (n₀ B1 B2 : Nat) (c1 c2 : Array Value) (W W' : World) : Prop := KeepBW n₀ W W' ∧ (Blk W B1 c1 27 → Blk W' B1 c1 27) ∧ (Blk W B2 c2 23 → Blk W' B2 c2 23)
theorem keepA_t {n₀ B1 B2 : Nat} {c1 c2 : Array Value} {A B C : World} (h : KeepA n₀ B1 B2 c1 c2 A B) (k : KeepA n₀ B1 B2 c1 c2 B C) : KeepA n₀ B1 B2 c1 c2 A C := ⟨keepBW_t h.1 k.1, fun x => k.2.1 (h.2.1 x), fun x => k.2.2 (h.2.2 x)⟩
theorem keepA_b {n₀ B1 B2 : Nat} {c1 c2 : Array Value} {w : World} (hn : n₀ ≤ w.heap.size) (h1 : B1 < w.heap.size) (h2 : B2 < w.heap.size) (W : World) (l : Nat) (o o' : Obj) (hl : w.heap.size ≤ l) (h : W.heap[l]? = some o) (hc : o.isCells = false) (hw : o.isWalk = false) : KeepA n₀ B1 B2 c1 c2 W (W.putObj l o') :=
  ⟨keepBW_b hn W l o o' hl h hc hw, fun x => by unfold Blk at x ⊢; rw [World.putObj_heap_other (by omega)]; exact x, fun x => by unfold Blk at x ⊢; rw [World.putObj_heap_other (by omega)]; exact x⟩
theorem AbidesW.still {B : Nat} {J : World → Prop} (h : AbidesW B J) {W W' : World} (hJ : J W) (hb : Below W.heap.size W W') : J W' := h W W' Option.none hJ ⟨hb.os, hb.tape, hb.output, hb.size, fun k hk _ => hb.block k hk⟩ (fun r e => by cases e)
def rf (L : List Att) (a : Att) (p : Int × Int) : Option Nat := if 0 ≤ writerL L p.1 a.rv then some (writerL L p.1 a.rv).toNat else none
theorem askedR_take (L : List Att) (a : Att) (k : Nat) (h : k < a.reads.length) : (a.reads.take (k + 1)).filterMap (rf L a) = (a.reads.take k).filterMap (rf L a) ++ (rf L a a.reads[k]).toList := by
  rw [List.take_succ_eq_append_getElem h, List.filterMap_append]
  simp only [List.filterMap_cons, List.filterMap_nil]
  cases rf L a a.reads[k] <;> rfl
theorem asked_getR (L : List Att) (a : Att) (k : Nat) (h : k < a.reads.length) (q : Nat) (hq : rf L a a.reads[k] = some q) :
    ((a.reads.take k).filterMap (rf L a)).length < (asked L a).length ∧ (asked L a).getD ((a.reads.take k).filterMap (rf L a)).length 0 = q := by
  have e1 : askedR L a = a.reads.filterMap (rf L a) := rfl
  have e2 : a.reads.filterMap (rf L a) = (a.reads.take (k + 1)).filterMap (rf L a) ++ (a.reads.drop (k + 1)).filterMap (rf L a) := by rw [← List.filterMap_append, List.take_append_drop]
  unfold asked
  rw [e1, e2, askedR_take L a k h, hq]
  constructor
  · simp only [List.length_append, Option.toList_some, List.length_cons, List.length_nil]; omega
  · rw [List.getD_eq_getElem?_getD, List.append_assoc, List.append_assoc, List.getElem?_append_right (Nat.le_refl _), Nat.sub_self]
    rfl
def tf (L : List Att) (a : Att) (i : Nat) : Bool := beforeB a (L.getD i Att.zero)
theorem askedT_take (L : List Att) (a : Att) (k : Nat) : (List.range (k + 1)).filter (tf L a) = (List.range k).filter (tf L a) ++ (if tf L a k = true then [k] else []) := by
  rw [List.range_succ, List.filter_append]
  simp only [List.filter_cons, List.filter_nil]
theorem range_split (L : List Att) (a : Att) (k : Nat) : ∀ n, k ≤ n → ∃ r, (List.range n).filter (tf L a) = (List.range k).filter (tf L a) ++ r
  | 0, h => by
    have : k = 0 := by omega
    subst this
    exact ⟨[], by simp⟩
  | n + 1, h => by
    by_cases he : k = n + 1
    · subst he; exact ⟨[], by simp⟩
    · obtain ⟨r, hr⟩ := range_split L a k n (by omega)
      exact ⟨r ++ (if tf L a n = true then [n] else []), by rw [askedT_take, hr, List.append_assoc]⟩
theorem asked_getT (L : List Att) (a : Att) (k : Nat) (h : k < L.length) (hq : tf L a k = true) :
    (askedR L a).length + ((List.range k).filter (tf L a)).length < (asked L a).length ∧ (asked L a).getD ((askedR L a).length + ((List.range k).filter (tf L a)).length) 0 = k := by
  have e1 : askedT L a = (List.range L.length).filter (tf L a) := rfl
  obtain ⟨r, hr⟩ := range_split L a (k + 1) L.length h
  unfold asked
  rw [e1, hr, askedT_take, if_pos hq]
  constructor
  · simp only [List.length_append, List.length_cons, List.length_nil]; omega
  · rw [List.getD_eq_getElem?_getD, List.getElem?_append_right (by omega), show (askedR L a).length + ((List.range k).filter (tf L a)).length - (askedR L a).length = ((List.range k).filter (tf L a)).length by omega, List.append_assoc, List.getElem?_append_right (Nat.le_refl _), Nat.sub_self]
    rfl
set_option maxRecDepth 100000 in
set_option maxHeartbeats 4000000 in
/-- The iterator hands who is asked, one behind the other. -/
theorem asked_in (n : Nat) (hn : 1 ≤ n) (lp B1 B2 : Nat) (L : List Att) (sv : Value) (a : Att) (r u : Value) (w0 : World) (J : Nat → World → Prop) (W : World) (hab : ∀ k, AbidesW W.heap.size (J k)) (hL : RdAtts w0 L sv) (ha : RdPairs w0 a.reads r) (ha' : RdPairs w0 a.writes u) (hb : Below w0.heap.size w0 W)
    (hY : ∀ k W1, J k W1 → k < (asked L a).length → YieldAt Fence.wide (n - 1) Tryd.prog lp #[.int .i64 ((asked L a).getD k 0 : Nat)] W1 fun e W' => e = .returned (.bool true) ∧ J (k + 1) W' ∧ KeepA w0.heap.size B1 B2 (attC a r u) #[sv] W1 W')
    (h1 : Blk W B1 (attC a r u) 27) (h2 : Blk W B2 #[sv] 23) (h0 : J 0 W) :
    CallsIn Fence.wide n Tryd.prog 35 #[.func (.yield lp) #[] #[], .pointer (some ⟨B1, 0, none⟩), .pointer (some ⟨B2, 0, none⟩)] W fun e W' => (∃ v, e = .returned v) ∧ J (asked L a).length W' := by
  obtain ⟨x, cap, rfl, hlen, hx⟩ := id hL
  obtain ⟨ar, cr, rfl, hrl, hro, hrx⟩ := id ha
  obtain ⟨au, cu, rfl⟩ := ha'.shape
  have HX := hid hx
  have HRX := hid hrx
  have HAB := hid hab
  have HY := hid hY
  have HL := hid hL
  have HB0 := hid hb
  have HBK1 := hid h1
  have HBK2 := hid h2
  have HJ0 := hid h0
  have c7 : W.cell? ⟨B1, 7, none⟩ = some (.slice ar a.reads.length cr) := h1.cell 7 rfl
  have hbl1 := h1.lt
  clear hx hrx hab hY hL hb h1 h2 h0 ha ha' hro
  refine callsIn_of_wp Tryd.func35 rfl trivial ?_ rfl
  simp only [Tryd.ntmps35, List.size_toArray, List.length_cons, List.length_nil, Nat.reduceAdd, Nat.reduceSub, Array.replicate_succ, Array.replicate_zero, List.push_toArray, List.append_toArray, List.nil_append, List.cons_append]
  gi_wp2
  gi_loopw [12] (fun i wr => ∃ (k : Nat), k ≤ a.reads.length ∧ i = .int .i64 (k : Int) ∧ Hid (J ((a.reads.take k).filterMap (rf L a)).length wr) ∧ Hid (Below w0.heap.size w0 wr) ∧ Hid (Blk wr B1 (attC a (.slice ar a.reads.length cr) (.slice au a.writes.length cu)) 27) ∧ Hid (Blk wr B2 #[.slice x L.length cap] 23) ∧ Hid (W.heap.size ≤ wr.heap.size)) (fun i _ => a.reads.length - (intOf i).toNat)
  case atStart => exact ⟨0, Nat.zero_le _, rfl, HJ0, HB0, HBK1, HBK2, hid (Nat.le_refl _)⟩
  case round =>
    obtain ⟨k, hk, rfl, HJ, HB, HK1, HK2, HSZ⟩ := hrel
    by_cases hlt : k < a.reads.length
    · obtain ⟨b, o, rfl, hcell⟩ := HRX.out (by intro h; rw [h] at hlt; simp at hlt)
      obtain ⟨p0, p1⟩ := hcell k hlt
      have d0 := later HB.out p0
      have d1 := later HB.out p1
      have j1 : decide ((k : Int) < (a.reads.length : Int)) = true := by rw [decide_eq_true_iff]; omega
      have j2 : (0 : Int) ≤ (k : Int) := by omega
      have j3 : IntKind.i64.wrap ((k : Int) + 1) = (k : Int) + 1 := IntWalk.i64_in _ (by omega)
      have j4 : decide (k < a.reads.length) = true := by rw [decide_eq_true_iff]; omega
      have hA := ext_alloc (ext_refl wr) (.cells #[.int .i64 a.reads[k].1, .int .i64 a.reads[k].2] 67)
      have g2 := (HK2.out.below hA).cell 0 (v := .slice x L.length cap) rfl
      have g1 := (HK1.out.below hA).cell 4 (v := .int .i64 a.rv) rfl
      have hbw := lt_of_cell d0
      have l1 := HK1.out.lt
      have l2 := HK2.out.lt
      have HLT := hid hlt
      have HW := hid (writer_any L a.reads[k].1 a.rv (wr.alloc (.cells #[.int .i64 a.reads[k].1, .int .i64 a.reads[k].2] 67)) _ (HL.out.below (ext_trans HB.out hA)))
      have HT := hid (askedR_take L a k hlt)
      have HG := hid (asked_getR L a k hlt)
      have HRF : Hid (rf L a a.reads[k] = if 0 ≤ writerL L a.reads[k].1 a.rv then some (writerL L a.reads[k].1 a.rv).toNat else none) := hid rfl
      generalize writerL L a.reads[k].1 a.rv = q at HW HRF
      generalize rf L a a.reads[k] = rfk at HT HG HRF
      clear hcell p0 p1
      gi_wp2_with (first
        | (refine ⟨trivial, ?_⟩; gi_at_call 19; refine (callsIn_wide.2 HW.out).mono ?_; rintro e' w2 ⟨rfl, hb2⟩; (have HA2 := hid (ext_trans hA hb2)); (by_cases hq : (0 : Int) ≤ q)))
      · obtain ⟨m, rfl⟩ : ∃ m : Nat, q = (m : Int) := ⟨q.toNat, by omega⟩
        have hrf : rfk = some m := by rw [HRF.out, if_pos hq]; simp
        obtain ⟨hG1, hG2⟩ := HG.out m hrf
        have hJ2 : J ((a.reads.take k).filterMap (rf L a)).length w2 := AbidesW.still (HAB.out _) HJ.out HA2.out
        obtain ⟨fn, tmps, assign, body, hy, hR⟩ := HY.out _ w2 hJ2 hG1
        rw [hG2] at hy
        gi_wp2
        rw [hy]
        gi_wp2
        refine hR.mono ?_
        rintro e' W3 ⟨rfl, hJ3, hk3⟩
        have HK13 := hid (hk3.2.1 (HK1.out.below HA2.out))
        have HK23 := hid (hk3.2.2 (HK2.out.below HA2.out))
        have HB3 := hid ((ext_trans HB.out HA2.out).trans hk3.1.1)
        have HJ3 := hid hJ3
        have HS3 := hid (Nat.le_trans HSZ.out (Nat.le_trans HA2.out.size hk3.1.1.size))
        clear hJ3 hk3
        gi_wp2
        go_roundw
        case rel => exact ⟨k + 1, by have := HLT.out; omega, by simp, by rw [HT.out, hrf]; simpa using HJ3, HB3, HK13, HK23, HS3⟩
        case measure => have := HLT.out; simp [intOf]; omega
      · have hrf : rfk = none := by rw [HRF.out, if_neg (by omega)]
        have hq' : decide ((0 : Int) ≤ q) = false := decide_eq_false (by omega)
        gi_wp2
        refine ⟨(fun f h => by cases h), ?_⟩
        gi_wp2
        go_roundw
        case rel => exact ⟨k + 1, by have := HLT.out; omega, by simp, by rw [HT.out, hrf]; simpa using hid (AbidesW.still (HAB.out _) HJ.out HA2.out), hid (ext_trans HB.out HA2.out), hid (HK1.out.below HA2.out), hid (HK2.out.below HA2.out), hid (Nat.le_trans HSZ.out HA2.out.size)⟩
        case measure => have := HLT.out; simp [intOf]; omega
    · obtain rfl : k = a.reads.length := by omega
      have HJ0 : Hid (J (askedR L a).length wr) := hid (by have := HJ.out; rwa [List.take_length] at this)
      have j1 : decide ((a.reads.length : Int) < (a.reads.length : Int)) = false := by rw [decide_eq_false_iff_not]; omega
      have j4 : decide (a.reads.length < a.reads.length) = false := by rw [decide_eq_false_iff_not]; omega
      have g2 := HK2.out.cell 0 (v := .slice x L.length cap) rfl
      have l2 := HK2.out.lt
      gi_wp2
      gi_loopw [33] (fun i wr => ∃ (k : Nat), k ≤ L.length ∧ i = .int .i64 (k : Int) ∧ Hid (J ((askedR L a).length + ((List.range k).filter (tf L a)).length) wr) ∧ Hid (Below w0.heap.size w0 wr) ∧ Hid (Blk wr B1 (attC a (.slice ar a.reads.length cr) (.slice au a.writes.length cu)) 27) ∧ Hid (Blk wr B2 #[.slice x L.length cap] 23) ∧ Hid (W.heap.size ≤ wr.heap.size)) (fun i _ => L.length - (intOf i).toNat)
      case atStart => exact ⟨0, Nat.zero_le _, rfl, HJ0, HB, HK1, HK2, HSZ⟩
      case round =>
        clear g2 l2 HK1 HK2 HB HSZ HJ HJ0 j1 j4
        obtain ⟨k, hk, rfl, HJ, HB, HK1, HK2, HSZ⟩ := hrel
        by_cases hlt : k < L.length
        · obtain ⟨b, o, rfl, hcell⟩ := HX.out (by intro h; rw [h] at hlt; simp at hlt)
          obtain ⟨r9, u9, hc⟩ := hcell k hlt
          have hc := hc.below HB.out
          obtain ⟨a7, k7, hr7⟩ := hc.reads.shape
          obtain ⟨a8, k8, hr8⟩ := hc.writes.shape
          subst hr7 hr8
          have d0 := hc.c0
          have d1 := hc.c1
          have d2 := hc.c2
          have d3 := hc.c3
          have d4 := hc.c4
          have d5 := hc.c5
          have d6 := hc.c6
          have d7 := hc.c7
          have d8 := hc.c8
          have hbl := lt_of_cell d0
          have j1 : decide ((k : Int) < (L.length : Int)) = true := by rw [decide_eq_true_iff]; omega
          have j2 : (0 : Int) ≤ (k : Int) := by omega
          have j3 : IntKind.i64.wrap ((k : Int) + 1) = (k : Int) + 1 := IntWalk.i64_in _ (by omega)
          have j4 : decide (k < L.length) = true := by rw [decide_eq_true_iff]; omega
          have HLT := hid hlt
          have HT := hid (askedT_take L a k)
          have HG := hid (asked_getT L a k hlt)
          have HTF : Hid (tf L a k = (L[k].com && decide (L[k].th = a.th) && decide (L[k].tx < a.tx))) := hid (by
            show beforeB a (L.getD k Att.zero) = _
            rw [List.getD_eq_getElem?_getD, List.getElem?_eq_getElem hlt]; rfl)
          have hA := ext_alloc (ext_refl wr) (.cells #[.int .i64 L[k].th, .int .i64 L[k].tx, .int .i64 L[k].from_, .int .i64 L[k].to_, .int .i64 L[k].rv, .int .i64 L[k].wv, .bool L[k].com, .slice a7 L[k].reads.length k7, .slice a8 L[k].writes.length k8] 27)
          have HA := hid hA
          have e0 := (HK1.out.below hA).cell 0 (v := .int .i64 a.th) rfl
          have e1 := (HK1.out.below hA).cell 1 (v := .int .i64 a.tx) rfl
          have l1 := HK1.out.lt
          have y0 := HK1.out.cell 0 (v := .int .i64 a.th) rfl
          have y1 := HK1.out.cell 1 (v := .int .i64 a.tx) rfl
          generalize tf L a k = tfk at HT HG HTF
          generalize L[k].com = cm at *
          generalize L[k].th = cth at *
          generalize L[k].tx = ctx at *
          have HEND : tfk = false → J ((askedR L a).length + ((List.range (k + 1)).filter (tf L a)).length) (wr.alloc (.cells #[.int .i64 cth, .int .i64 ctx, .int .i64 L[k].from_, .int .i64 L[k].to_, .int .i64 L[k].rv, .int .i64 L[k].wv, .bool cm, .slice a7 L[k].reads.length k7, .slice a8 L[k].writes.length k8] 27)) := by
            intro ht
            rw [HT.out, ht]
            simpa using AbidesW.still (HAB.out _) HJ.out HA.out
          have HEND := hid HEND
          clear hc hcell hA
          cases cm
          · have htk : tfk = false := by rw [HTF.out]; rfl
            gi_wp2
            refine ⟨(fun f h => by cases h), ?_⟩
            gi_wp2
            go_roundw
            case rel => exact ⟨k + 1, HLT.out, by simp, hid (HEND.out htk), hid (ext_trans HB.out HA.out), hid (HK1.out.below HA.out), hid (HK2.out.below HA.out), hid (Nat.le_trans HSZ.out HA.out.size)⟩
            case measure => have := HLT.out; simp [intOf]; omega
          · by_cases h1 : cth = a.th
            · subst h1
              by_cases h2 : ctx < a.tx
              · have htk : tfk = true := by rw [HTF.out]; simp [h2]
                obtain ⟨hG1, hG2⟩ := HG.out htk
                obtain ⟨fn, tmps, assign, body, hy, hR⟩ := HY.out _ _ (AbidesW.still (HAB.out _) HJ.out HA.out) hG1
                rw [hG2] at hy
                gi_wp2
                erw [hy]
                gi_wp2
                refine hR.mono ?_
                rintro e' W3 ⟨rfl, hJ3, hk3⟩
                have HK13 := hid (hk3.2.1 (HK1.out.below HA.out))
                have HK23 := hid (hk3.2.2 (HK2.out.below HA.out))
                have HB3 := hid ((ext_trans HB.out HA.out).trans hk3.1.1)
                have HJ3 := hid hJ3
                have HS3 := hid (Nat.le_trans HSZ.out (Nat.le_trans HA.out.size hk3.1.1.size))
                clear hJ3 hk3
                gi_wp2
                go_roundw
                case rel => exact ⟨k + 1, by have := HLT.out; omega, by simp, by rw [HT.out, htk]; simpa [Nat.add_assoc] using HJ3, HB3, HK13, HK23, HS3⟩
                case measure => have := HLT.out; simp [intOf]; omega
              · have htk : tfk = false := by rw [HTF.out]; simp [h2]
                have f2 : decide (ctx < a.tx) = false := decide_eq_false h2
                gi_wp2
                refine ⟨(fun f h => by cases h), ?_⟩
                gi_wp2
                go_roundw
                case rel => exact ⟨k + 1, HLT.out, by simp, hid (HEND.out htk), hid (ext_trans HB.out HA.out), hid (HK1.out.below HA.out), hid (HK2.out.below HA.out), hid (Nat.le_trans HSZ.out HA.out.size)⟩
                case measure => have := HLT.out; simp [intOf]; omega
            · have htk : tfk = false := by rw [HTF.out]; simp [h1]
              have f1 : (cth == a.th) = false := beq_eq_false_iff_ne.2 h1
              gi_wp2
              refine ⟨(fun f h => by cases h), ?_⟩
              gi_wp2
              go_roundw
              case rel => exact ⟨k + 1, HLT.out, by simp, hid (HEND.out htk), hid (ext_trans HB.out HA.out), hid (HK1.out.below HA.out), hid (HK2.out.below HA.out), hid (Nat.le_trans HSZ.out HA.out.size)⟩
              case measure => have := HLT.out; simp [intOf]; omega
        · obtain rfl : k = L.length := by omega
          have j1 : decide ((L.length : Int) < (L.length : Int)) = false := by rw [decide_eq_false_iff_not]; omega
          have j4 : decide (L.length < L.length) = false := by rw [decide_eq_false_iff_not]; omega
          have hend : J (asked L a).length wr := by have := HJ.out; unfold asked; rw [List.length_append]; exact this
          gi_wp2
          go_end0
          exact ⟨⟨_, rfl⟩, hend⟩
end Go.Proofs.YtnmbacleaijhmaaDoor
/-
  The shelf's contract of slices.Insert, laid at this program: by numbers alone.
-/
namespace Go.Proofs.YtnmbacleaijhmaaDoor
set_option linter.unusedVariables false
open Go.Shelf
def laysIns_ren : Go.Shelf.Ren := ⟨fun | 21 => 21 | 27 => 33 | 28 => 34 | 35 => 55 | 39 => 67 | n => n, fun | 22 => 29 | 3 => 3 | 4 => 4 | 0 => 0 | n => n, fun | n => n⟩
theorem laysIns : Go.Proofs.Lays2.n21 Tryd.prog laysIns_ren := {
  mixed := by kernel_rfl
  f21 := Tryd.func21.trans (congrArg some (by kernel_rfl))
  f27 := Tryd.func33.trans (congrArg some (by kernel_rfl))
  f28 := Tryd.func34.trans (congrArg some (by kernel_rfl))
  f35 := Tryd.func55.trans (congrArg some (by kernel_rfl))
  f39 := Tryd.func67.trans (congrArg some (by kernel_rfl))
  t0 := Tryd.underlying0
  a0 := Tryd.isAgg0
  z0 := Tryd.sizeOf0
  v0 := Tryd.zeroValue0
  t3 := Tryd.underlying3
  a3 := Tryd.isAgg3
  z3 := Tryd.sizeOf3
  v3 := Tryd.zeroValue3
  t4 := Tryd.underlying4
  a4 := Tryd.isAgg4
  z4 := Tryd.sizeOf4
  v4 := Tryd.zeroValue4
  t22 := Tryd.underlying29
  a22 := Tryd.isAgg29
  z22 := Tryd.sizeOf29
  v22 := Tryd.zeroValue29
  i3 := by kernel_rfl }
end Go.Proofs.YtnmbacleaijhmaaDoor
/-
  Walk: slices.Insert of one number into a row of numbers, by the shelf's contracts.
-/
namespace Go.Proofs.YtnmbacleaijhmaaDoor.In
set_option linter.unusedVariables false
open Go Go.RowKit Go.Shelf
set_option maxRecDepth 100000
set_option maxHeartbeats 4000000
set_option linter.unusedSimpArgs false
set_option linter.unusedVariables false
/-- What is outside stands. -/
structure Outs (w w' : World) : Prop where
  os : w'.os = w.os
  tape : w'.tape = w.tape
  output : w'.output = w.output
theorem Outs.trans {a b c : World} (h : Outs a b) (k : Outs b c) : Outs a c := ⟨k.os.trans h.os, k.tape.trans h.tape, k.output.trans h.output⟩
def ow {α : Type} : List α → List α → Nat → List α
  | [], cs, _ => cs
  | v :: vs, cs, off => ow vs (cs.set off v) (off + 1)
theorem ow_length {α : Type} : ∀ (vs cs : List α) (off : Nat), (ow vs cs off).length = cs.length
  | [], _, _ => rfl
  | v :: vs, cs, off => by simp [ow, ow_length vs]
theorem cell_of {W : World} {b i : Nat} {c : Array Value} {el : TypeId} {fr : Nat × Nat} (h : W.heap[b]? = some (.cells c el fr)) : W.cell? ⟨b, i, none⟩ = c[i]? := by
  simp [World.cell?, h]
theorem frozen_of {W : World} {b i : Nat} {c : Array Value} {el : TypeId} {lo hi : Nat} (h : W.heap[b]? = some (.cells c el (lo, hi))) : W.frozen? ⟨b, i, none⟩ = (decide (lo ≤ i) && decide (i < hi)) := by
  simp [World.frozen?, h]
theorem addr_add (b off i : Nat) : (⟨b, off, none⟩ : Addr).add i = ⟨b, off + i, none⟩ := by
  unfold Addr.add
  split
  · subst_vars; rfl
  · rfl
theorem ow_get {α : Type} : ∀ (us l : List α) (k j : Nat), k + us.length ≤ l.length → (ow us l k)[j]? = if k ≤ j ∧ j < k + us.length then us[j - k]? else l[j]?
  | [], l, k, j, _ => by
    rw [if_neg (by simp only [List.length_nil]; omega)]
    rfl
  | u :: us, l, k, j, h => by
    simp only [List.length_cons] at h
    show (ow us (l.set k u) (k + 1))[j]? = _
    rw [ow_get us (l.set k u) (k + 1) j (by rw [List.length_set]; omega)]
    simp only [List.length_cons]
    by_cases h1 : k + 1 ≤ j ∧ j < k + 1 + us.length
    · rw [if_pos h1, if_pos (by omega), show j - k = (j - (k + 1)) + 1 by omega, List.getElem?_cons_succ]
    · rw [if_neg h1]
      by_cases h2 : j = k
      · subst h2
        rw [if_pos (by omega), List.getElem?_set, if_pos rfl, if_pos (by omega), Nat.sub_self]
        rfl
      · rw [if_neg (by omega), List.getElem?_set, if_neg (fun e => h2 e.symm)]
theorem ins_get {α : Type} (cv vs : List α) (i j : Nat) (hv : vs.length = 1) (hi : i ≤ cv.length) : (cv.take i ++ vs ++ cv.drop i)[j]? = if j < i then cv[j]? else if j = i then vs[0]? else cv[j - 1]? := by
  have e1 : (cv.take i).length = i := by rw [List.length_take]; omega
  by_cases h1 : j < i
  · rw [if_pos h1, List.getElem?_append_left (by rw [List.length_append, e1]; omega), List.getElem?_append_left (by omega), List.getElem?_take, if_pos h1]
  · rw [if_neg h1]
    by_cases h2 : j = i
    · subst h2
      rw [if_pos rfl, List.getElem?_append_left (by rw [List.length_append, e1]; omega), List.getElem?_append_right (by omega), e1, Nat.sub_self]
    · rw [if_neg h2, List.getElem?_append_right (by rw [List.length_append, e1]; omega), List.length_append, e1, List.getElem?_drop, hv, show i + (j - (i + 1)) = j - 1 by omega]
/-- The row, however the two parts are laid. -/
theorem ins_row {α : Type} (cv vs X : List α) (i : Nat) (hv : vs.length = 1) (hi : i < cv.length) (hX : cv.length + 1 ≤ X.length) (hp : ∀ j, j < i → X[j]? = cv[j]?) :
    (ow (cv.drop i) (ow vs X i) (i + 1)).take (cv.length + 1) = cv.take i ++ vs ++ cv.drop i ∧ (ow vs (ow (cv.drop i) X (i + 1)) i).take (cv.length + 1) = cv.take i ++ vs ++ cv.drop i := by
  have hd : (cv.drop i).length = cv.length - i := List.length_drop
  have key : ∀ j, (if j < cv.length + 1 then (if i + 1 ≤ j ∧ j < i + 1 + (cv.length - i) then (cv.drop i)[j - (i + 1)]? else if i ≤ j ∧ j < i + 1 then vs[j - i]? else X[j]?) else none) = if j < i then cv[j]? else if j = i then vs[0]? else cv[j - 1]? := by
    intro j
    by_cases h0 : j < cv.length + 1
    · rw [if_pos h0]
      by_cases h1 : j < i
      · rw [if_neg (by omega), if_neg (by omega), if_pos h1, hp j h1]
      · by_cases h2 : j = i
        · subst h2
          rw [if_neg (by omega), if_pos (by omega), if_neg h1, if_pos rfl, Nat.sub_self]
        · rw [if_pos (by omega), if_neg h1, if_neg h2, List.getElem?_drop, show i + (j - (i + 1)) = j - 1 by omega]
    · rw [if_neg h0, if_neg (by omega), if_neg (by omega)]
      symm
      exact List.getElem?_eq_none (by omega)
  constructor
  · refine List.ext_getElem? fun j => ?_
    rw [ins_get cv vs i j hv (by omega), ← key j, List.getElem?_take, ow_get _ _ _ _ (by rw [ow_length, hd]; omega), ow_get _ _ _ _ (by omega), hd, hv]
  · refine List.ext_getElem? fun j => ?_
    rw [ins_get cv vs i j hv (by omega), ← key j, List.getElem?_take, ow_get _ _ _ _ (by rw [ow_length]; omega), ow_get _ _ _ _ (by rw [hd]; omega), hd, hv]
    by_cases h1 : i ≤ j ∧ j < i + 1
    · rw [if_pos h1, if_neg (show ¬ (i + 1 ≤ j ∧ j < i + 1 + (cv.length - i)) by omega), if_pos h1]
    · rw [if_neg h1, if_neg h1]
theorem setCells_heap (b : Nat) : ∀ (vs : List Value) (o : Nat) (w : World) (c : Array Value) (el : TypeId) (fr : Nat × Nat), w.heap[b]? = some (.cells c el fr) → (w.setCells b o vs).heap[b]? = some (.cells ⟨ow vs c.toList o⟩ el fr) ∧ (∀ k, k ≠ b → (w.setCells b o vs).heap[k]? = w.heap[k]?) ∧ Outs w (w.setCells b o vs)
  | [], o, w, c, el, fr, h => ⟨h, fun _ _ => rfl, ⟨rfl, rfl, rfl⟩⟩
  | v :: r, o, w, c, el, fr, h => by
    have h1 : (w.setCell ⟨b, o, none⟩ v).heap[b]? = some (.cells (c.setIfInBounds o v) el fr) := by simp [World.setCell, Array.getElem?_modify, h]
    obtain ⟨a1, a2, a3⟩ := setCells_heap b r (o + 1) (w.setCell ⟨b, o, none⟩ v) _ el fr h1
    refine ⟨?_, fun k hk => ?_, ⟨a3.os, a3.tape, a3.output⟩⟩
    · show ((w.setCell ⟨b, o, none⟩ v).setCells b (o + 1) r).heap[b]? = _
      rw [a1]
      simp [ow]
    · show ((w.setCell ⟨b, o, none⟩ v).setCells b (o + 1) r).heap[k]? = _
      rw [a2 k hk]
      simp [World.setCell, Array.getElem?_modify, Ne.symm hk]

theorem zc_size (n : Nat) : (Builtin.zeroCells (Value.int .i64 0).cells n).size = n := by rw [size_zeroCells]; exact Nat.mul_one n
theorem row_app (cv vs : List Value) (Z : Array Value) : ((cv ++ vs).toArray ++ Z).toList = cv ++ vs ++ Z.toList := by rw [Array.toList_append]
theorem alloc_at (w : World) (ob : Obj) : (w.alloc ob).heap[w.heap.size]? = some ob := by show (w.heap.push ob)[w.heap.size]? = some ob; rw [Array.getElem?_push, if_pos rfl]
theorem alloc_past (w : World) (ob : Obj) (k : Nat) (hk : k < w.heap.size) : (w.alloc ob).heap[k]? = w.heap[k]? := by show (w.heap.push ob)[k]? = _; rw [Array.getElem?_push, if_neg (by omega)]
theorem ins_any (n₀ : Nat) (v : Value) (n i vb vc : Nat) (cv : List Value) (x : Value) (W : World) (hown : W.ownsRow n₀ 3 1 v n cv) (h1c : ∀ u ∈ cv, u.oneCell' = true) (h1x : x.oneCell' = true) (hi : i ≤ n) (hvb : Blk W vb #[x] 3) (hne : v.ownBlock ≠ some vb) (hbig : n + 1 ≤ 17592186044415) (hn₀ : n₀ ≤ W.heap.size) :
    Calls Tryd.prog 21 #[v, .int .i64 (i : Int), .slice (some ⟨vb, 0, none⟩) 1 vc] W fun e w' => ∃ v', e = .returned v' ∧ w'.ownsRow n₀ 3 1 v' (n + 1) (cv.take i ++ [x] ++ cv.drop i) ∧ W.grownBy w' v.ownBlock ∧ (v'.ownBlock = v.ownBlock ∨ ∃ q, v'.ownBlock = some q ∧ W.heap.size ≤ q) := by
  have hcvl : cv.length = n := by have := hown.1; omega
  have hvs : ∀ j u, [x][j]? = some u → W.cell? ⟨vb, 0 + j, none⟩ = some u := fun j u hj => by
    rcases j with _ | j
    · simp at hj; subst hj; exact hvb.cell 0 rfl
    · simp at hj
  have h1v : ∀ u ∈ [x], u.oneCell' = true := fun u hu => by rw [List.mem_singleton.1 hu]; exact h1x
  have hB : n + 1 ≤ maxLen := by unfold maxLen; omega
  have newBlk : ∀ (X : List Value) (G : Nat) (W' : World), W'.heap[W.heap.size]? = some (.cells ⟨X⟩ 3 (0, 0)) → (∀ k, k < W.heap.size → W'.heap[k]? = W.heap[k]?) → X.take (n + 1) = cv.take i ++ [x] ++ cv.drop i → X.length = G → n + 1 ≤ G → G ≤ maxLen → Outs W W' →
      ∃ v', (Ending.returned (.slice (some ⟨W.heap.size, 0, none⟩) (n + 1) G)) = .returned v' ∧ W'.ownsRow n₀ 3 1 v' (n + 1) (cv.take i ++ [x] ++ cv.drop i) ∧ W.grownBy W' v.ownBlock ∧ (v'.ownBlock = v.ownBlock ∨ ∃ q, v'.ownBlock = some q ∧ W.heap.size ≤ q) := by
    intro X G W' q1 q2 hX hG hl hm ho
    have hlt := (Array.getElem?_eq_some_iff.1 q1).1
    refine ⟨_, rfl, ⟨?_, .inr ⟨W.heap.size, G, ⟨X⟩, rfl, hn₀, q1, hl, hm, by rw [Nat.mul_one]; exact hG, by rw [Nat.mul_one]; exact hX⟩⟩, ⟨ho.os, ho.tape, ho.output, by omega, fun k hk _ => q2 k hk⟩, .inr ⟨_, rfl, Nat.le_refl _⟩⟩
    rw [List.length_append, List.length_append, List.length_take, List.length_drop, List.length_singleton]; omega
  rcases hown.2 with ⟨rfl, h0⟩ | ⟨g, cap, c, rfl, hb, hh, hcap, hcm, hsz, htk⟩
  · subst h0
    obtain rfl : i = 0 := by omega
    obtain rfl : cv = [] := List.eq_nil_of_length_eq_zero hcvl
    refine (Any2.slices_Insert_int_end_grow laysIns none 0 0 vb 0 1 vc [] [x] W (by decide) (by decide) (by decide) (by decide) rfl rfl (fun _ => rfl) (fun a h => by cases h) hvs h1v).mono fun e W' ⟨he, hw⟩ => ?_
    subst he
    have hg := grownCap_ge W (0 + 1) 0 (laysIns_ren.t 3)
    have hg' := grownCap_le_maxLen W (0 + 1) 0 (laysIns_ren.t 3) (by decide)
    refine newBlk (([] ++ [x]).toArray ++ Builtin.zeroCells (Value.int .i64 0).cells (grownCap W (0 + 1) 0 (laysIns_ren.t 3) - (0 + 1))).toList _ W' (by rw [hw]; exact alloc_at W _) (fun k hk => by rw [hw]; exact alloc_past W _ k hk) ?_ ?_ hg hg' (by rw [hw]; exact ⟨rfl, rfl, rfl⟩)
    · rw [row_app]; simp
    · have e1 : ∀ A : Array Value, A.toList.length = A.size := fun _ => rfl
      rw [e1, Array.size_append, zc_size]
      have e2 : (([] ++ [x] : List Value).toArray).size = 1 := rfl
      rw [e2]; omega
  · have hsz : c.size = cap := by rw [hsz, Nat.mul_one]
    have htk : c.toList.take n = cv := by rw [← htk, Nat.mul_one]
    have hcs : ∀ j u, cv[j]? = some u → W.cell? ⟨g, 0 + j, none⟩ = some u := fun j u hj => by
      rw [cell_of hh, Nat.zero_add]
      rw [← htk, List.getElem?_take] at hj
      split at hj
      · rw [Array.getElem?_toList] at hj; exact hj
      · cases hj
    have hgv : vb ≠ g := fun e => hne (by rw [e]; rfl)
    have inPlace : ∀ (X : List Value) (W' : World), n + 1 ≤ cap → W'.heap[g]? = some (.cells ⟨X⟩ 3 (0, 0)) → X.length = c.size → X.take (n + 1) = cv.take i ++ [x] ++ cv.drop i → (∀ k, k ≠ g → W'.heap[k]? = W.heap[k]?) → W.heap.size ≤ W'.heap.size → Outs W W' →
        ∃ v', (Ending.returned (.slice (some ⟨g, 0, none⟩) (n + 1) cap)) = .returned v' ∧ W'.ownsRow n₀ 3 1 v' (n + 1) (cv.take i ++ [x] ++ cv.drop i) ∧ W.grownBy W' (Value.slice (some ⟨g, 0, none⟩) n cap).ownBlock ∧ (v'.ownBlock = (Value.slice (some ⟨g, 0, none⟩) n cap).ownBlock ∨ ∃ q, v'.ownBlock = some q ∧ W.heap.size ≤ q) := by
      intro X W' hr q1 hX hXt q2 hs ho
      refine ⟨_, rfl, ⟨?_, .inr ⟨g, cap, ⟨X⟩, rfl, hb, q1, hr, hcm, by rw [Nat.mul_one]; show X.length = cap; omega, by rw [Nat.mul_one]; exact hXt⟩⟩, ⟨ho.os, ho.tape, ho.output, hs, fun k _ hk => q2 k (fun e => hk (by rw [e]; rfl))⟩, .inl rfl⟩
      rw [List.length_append, List.length_append, List.length_take, List.length_drop, List.length_singleton]; omega
    have szS : ∀ (vs : List Value) (o : Nat) (w : World), (w.setCells g o vs).heap.size = w.heap.size := by
      intro vs
      induction vs with
      | nil => intro o w; rfl
      | cons v r ih => intro o w; show ((w.setCell ⟨g, o, none⟩ v).setCells g (o + 1) r).heap.size = _; rw [ih]; simp [World.setCell]
    by_cases hroom : n + 1 ≤ cap
    · by_cases hin : i < n
      · have hsha : W.shape? vb = some (3, 1) := by have := hvb; unfold Blk at this; simp [World.shape?, this]
        have hshb : W.shape? g = some (3, c.size) := by simp [World.shape?, hh]
        refine (Any2.slices_Insert_int_shift laysIns g 0 n cap i vb 0 1 vc cv [x] W hin (by decide) hroom (by unfold maxLen at hcm; omega) hgv hcvl rfl hcs (fun j hj => ?_) (fun j hj => ?_) hvs h1c h1v 3 3 1 c.size hsha hshb (by omega) (hvb.free _) (hvb.free _)).mono fun e W' ⟨he, hw⟩ => ?_
        · rw [cell_of hh, Array.getElem?_eq_getElem (by omega)]; rfl
        · rw [frozen_of hh]; simp
        · subst he
          obtain ⟨a1, a2, a3⟩ := setCells_heap g (cv.drop i) (0 + (i + 1)) W.drew c 3 (0, 0) hh
          obtain ⟨q1, q2, q3⟩ := setCells_heap g [x] (0 + i) _ _ 3 (0, 0) a1
          rw [← hw] at q1 q2 q3
          refine inPlace _ W' hroom q1 (by simp [ow_length]) ?_ (fun k hk => by rw [q2 k hk, a2 k hk]; rfl) ?_ ?_
          · have := (ins_row cv [x] c.toList i rfl (by omega) (by have : c.toList.length = c.size := rfl; omega) (fun j hj => by rw [← htk, List.getElem?_take, if_pos (by omega)])).2
            rw [hcvl] at this
            simpa using this
          · rw [hw, szS, szS]; exact Nat.le_refl _
          · exact Outs.trans (Outs.trans (b := W.drew) ⟨rfl, rfl, rfl⟩ a3) q3
      · have hie : i = n := by omega
        subst hie
        refine (Any2.slices_Insert_int_end_room laysIns g 0 i cap vb 0 1 vc [x] W (by decide) hroom (by unfold maxLen at hcm; omega) rfl (fun j hj => ?_) (fun j hj => ?_) hvs h1v).mono fun e W' ⟨he, hw⟩ => ?_
        · rw [cell_of hh, Array.getElem?_eq_getElem (by omega)]; rfl
        · rw [frozen_of hh]; simp
        · subst he
          obtain ⟨q1, q2, q3⟩ := setCells_heap g [x] (0 + i) W c 3 (0, 0) hh
          rw [← hw] at q1 q2 q3
          refine inPlace _ W' hroom q1 (by simp [ow_length]) ?_ q2 ?_ q3
          · have e1 : cv.take i = cv := List.take_of_length_le (by omega)
            have e2 : cv.drop i = [] := List.drop_eq_nil_of_le (by omega)
            rw [e1, e2, List.append_nil, Nat.zero_add]
            show (c.toList.set i x).take (i + 1) = _
            rw [List.take_set, List.take_succ_eq_append_getElem (by show i < c.toList.length; have : c.toList.length = c.size := rfl; omega), List.set_append_right _ _ (by rw [htk]; omega), htk]
            rw [show i - cv.length = 0 by omega]; rfl
          · rw [hw, szS]; exact Nat.le_refl _
    · have hcap : cap = n := by omega
      subst hcap
      have hGl := grownCap_ge W (cap + 1) cap (laysIns_ren.t 3)
      have hGb := grownCap_le_maxLen W (cap + 1) cap (laysIns_ren.t 3) hB
      by_cases hin : i < cap
      · refine (Any2.slices_Insert_int_grow laysIns g 0 cap cap i vb 0 1 vc cv [x] W hin (by decide) (Nat.le_refl _) (by omega) (by omega) hcvl rfl hcs hvs h1c h1v).mono fun e W' ⟨he, hw⟩ => ?_
        subst he
        obtain ⟨GC, hGC⟩ : ∃ GC, GC = grownCap W (cap + 1) cap (laysIns_ren.t 3) := ⟨_, rfl⟩
        rw [← hGC] at hw hGl hGb ⊢
        obtain ⟨ROW, hROW⟩ : ∃ ROW : Array Value, ROW = (cv.take i).toArray ++ Builtin.zeroCells (Value.int .i64 0).cells (cap + 1 - i) ++ Builtin.zeroCells (Value.int .i64 0).cells (GC - (cap + 1)) := ⟨_, rfl⟩
        rw [← hROW] at hw
        have hRs : ROW.size = GC := by
          rw [hROW]
          have e2 : ((cv.take i).toArray).size = i := by show (cv.take i).length = i; rw [List.length_take]; omega
          rw [Array.size_append, Array.size_append, zc_size, zc_size, e2]
          omega
        have h0 : (W.alloc (.cells ROW (laysIns_ren.t 3))).drew.heap[W.heap.size]? = some (.cells ROW (laysIns_ren.t 3)) := alloc_at W _
        obtain ⟨a1, a2, a3⟩ := setCells_heap W.heap.size [x] i _ _ _ _ h0
        obtain ⟨q1, q2, q3⟩ := setCells_heap W.heap.size (cv.drop i) (i + 1) (((W.alloc (.cells ROW (laysIns_ren.t 3))).drew.setCells W.heap.size i [x]).drew) _ _ _ a1
        rw [← hw] at q1 q2 q3
        refine newBlk _ GC W' q1 (fun k hk => ?_) ?_ (by simp [ow_length, hRs]) hGl hGb ?_
        · rw [q2 k (by omega)]
          show ((W.alloc (.cells ROW (laysIns_ren.t 3))).drew.setCells W.heap.size i [x]).heap[k]? = _
          rw [a2 k (by omega)]
          exact alloc_past W _ k hk
        · have := (ins_row cv [x] ROW.toList i rfl (by omega) (by have : ROW.toList.length = ROW.size := rfl; omega) (fun j hj => by
            have e1 : (cv.take i).length = i := by rw [List.length_take]; omega
            have e2 : ((cv.take i).toArray.toList).length = i := e1
            rw [hROW, Array.toList_append, Array.toList_append, List.getElem?_append_left (by rw [List.length_append, e2]; omega), List.getElem?_append_left (by rw [e2]; omega)]
            show (cv.take i)[j]? = _
            rw [List.getElem?_take, if_pos hj])).1
          rw [hcvl] at this
          exact this
        · exact Outs.trans (Outs.trans (Outs.trans (b := (W.alloc (.cells ROW (laysIns_ren.t 3))).drew) ⟨rfl, rfl, rfl⟩ a3) (c := ((W.alloc (.cells ROW (laysIns_ren.t 3))).drew.setCells W.heap.size i [x]).drew) ⟨rfl, rfl, rfl⟩) q3
      · have hie : i = cap := by omega
        subst hie
        refine (Any2.slices_Insert_int_end_grow laysIns (some ⟨g, 0, none⟩) i i vb 0 1 vc cv [x] W (by decide) (Nat.le_refl _) (by omega) (by omega) hcvl rfl (fun h => by cases h) (fun a h => ?_) hvs h1v).mono fun e W' ⟨he, hw⟩ => ?_
        · cases h
          intro j v hj
          rw [addr_add]
          exact hcs j v hj
        · subst he
          refine newBlk ((cv ++ [x]).toArray ++ Builtin.zeroCells (Value.int .i64 0).cells (grownCap W (i + 1) i (laysIns_ren.t 3) - (i + 1))).toList _ W' (by rw [hw]; exact alloc_at W _) (fun k hk => by rw [hw]; exact alloc_past W _ k hk) ?_ ?_ hGl hGb (by rw [hw]; exact ⟨rfl, rfl, rfl⟩)
          · rw [row_app, List.take_append_of_le_length (by rw [List.length_append, List.length_singleton]; omega), List.take_of_length_le (by rw [List.length_append, List.length_singleton]; omega)]
            have e1 : cv.take i = cv := List.take_of_length_le (by omega)
            have e2 : cv.drop i = [] := List.drop_eq_nil_of_le (by omega)
            rw [e1, e2]
            simp
          · have e1 : ∀ A : Array Value, A.toList.length = A.size := fun _ => rfl
            have e2 : ((cv ++ [x]).toArray).size = i + 1 := by show (cv ++ [x]).length = i + 1; rw [List.length_append, List.length_singleton]; omega
            rw [e1, Array.size_append, zc_size, e2]
            omega
end Go.Proofs.YtnmbacleaijhmaaDoor.In
/-
  Walk: slices.BinarySearch over numbers that rise.
-/
namespace Go.Proofs.YtnmbacleaijhmaaDoor
set_option linter.unusedVariables false
set_option linter.unusedSimpArgs false
set_option linter.unusedVariables false
open Go Go.RowKit
/-- A row of numbers that are no less than 0, in memory. -/
def RdNats (w : World) (l : List Nat) (v : Value) : Prop := ∃ a cap, v = .slice a l.length cap ∧ (l ≠ [] → ∃ b o, a = some ⟨b, o, none⟩ ∧ ∀ k (h : k < l.length), w.cell? ⟨b, o + k, none⟩ = some (.int .i64 (l[k] : Int)))
theorem RdNats.below {w w' : World} (hb : Below w.heap.size w w') {l : List Nat} {v : Value} (h : RdNats w l v) : RdNats w' l v := by
  obtain ⟨a, cap, h1, h2⟩ := h
  refine ⟨a, cap, h1, fun hn => ?_⟩
  obtain ⟨b, o, h3, h4⟩ := h2 hn
  exact ⟨b, o, h3, fun k hk => later hb (h4 k hk)⟩
theorem place_mem {l : List Nat} {i : Nat} (h : SortedN l) : i ∈ l ↔ ∃ hp : placeN l i < l.length, l[placeN l i] = i := by
  obtain ⟨h1, h2⟩ := placeN_spec (i := i) h
  constructor
  · intro hm
    obtain ⟨k, hk, e⟩ := List.mem_iff_getElem.1 hm
    have hpk : placeN l i ≤ k := by
      rcases Nat.lt_or_ge k (placeN l i) with h' | h'
      · have := h1 k hk h'; omega
      · exact h'
    have hp : placeN l i < l.length := by omega
    refine ⟨hp, ?_⟩
    have hge := h2 _ hp (Nat.le_refl _)
    rcases Nat.lt_or_ge (placeN l i) k with h' | h'
    · have := List.pairwise_iff_getElem.1 h _ _ hp hk h'
      omega
    · have hpe : k = placeN l i := by omega
      subst hpe
      exact e
  · rintro ⟨hp, e⟩
    rw [← e]
    exact List.getElem_mem hp
set_option maxRecDepth 100000 in
set_option maxHeartbeats 4000000 in
theorem less_any (a b : Int) (w : World) : Calls Tryd.prog 31 #[.int .i64 a, .int .i64 b] w fun e w' => e = .returned (.bool (decide (a < b))) ∧ w' = w := by
  have HN : ∀ (x : Int) (w : World), Calls Tryd.prog 54 #[.int .i64 x] w fun e w' => e = .returned (.bool false) ∧ w' = w := by
    intro x w
    go_enter Tryd.func54, Tryd.ntmps54
    go_wp2_with fail
    go_ret
    exact ⟨by simp, rfl⟩
  have HN := hid HN
  go_enter Tryd.func31, Tryd.ntmps31
  go_wp2_with fail
  refine (HN.out a w).mono ?_
  rintro e' w1 ⟨rfl, rfl⟩
  go_wp2_with fail
  go_ret
  exact ⟨by simp, rfl⟩
set_option maxRecDepth 100000 in
set_option maxHeartbeats 4000000 in
theorem bsearch_any (l : List Nat) (hs : SortedN l) (i : Nat) (w : World) (v : Value) (hr : RdNats w l v) (hl : l.length ≤ 1000000000) :
    Calls Tryd.prog 20 #[v, .int .i64 (i : Int)] w fun e w' => e = .returned (.tuple #[.int .i64 (placeN l i : Int), .bool (decide (i ∈ l))]) ∧ w' = w := by
  obtain ⟨a, cap, rfl, hx⟩ := hr
  have HX := hid hx; clear hx
  have HN : ∀ (x : Int) (w : World), Calls Tryd.prog 32 #[.int .i64 x] w fun e w' => e = .returned (.bool false) ∧ w' = w := by
    intro x w
    go_enter Tryd.func32, Tryd.ntmps32
    go_wp2_with fail
    go_ret
    exact ⟨by simp, rfl⟩
  have HN' := hid HN
  clear HN
  have HN := HN'
  clear HN'
  have HL := hid hl; clear hl
  have HSP := hid (placeN_spec (i := i) hs)
  have HPM := hid (place_mem (i := i) hs)
  have HPL := hid (placeN_le l i)
  obtain ⟨d, hd⟩ : ∃ d, d = decide (i ∈ l) := ⟨_, rfl⟩
  rw [← hd]
  have HD := hid hd
  generalize placeN l i = P at HSP HPM HPL ⊢
  clear hd
  go_enter Tryd.func20, Tryd.ntmps20
  go_wp2_with fail
  go_loopw [7, 8] (fun p q wr => ∃ a b : Nat, p = .int .i64 (a : Int) ∧ q = .int .i64 (b : Int) ∧ Hid (a ≤ P ∧ P ≤ b ∧ b ≤ l.length) ∧ wr = w) (fun p q _ => (intOf q).toNat - (intOf p).toNat)
  case atStart => exact ⟨0, l.length, rfl, rfl, hid ⟨Nat.zero_le _, HPL.out, Nat.le_refl _⟩, rfl⟩
  case round =>
    obtain ⟨p, q, rfl, rfl, HI, rfl⟩ := hrel
    by_cases hlt : p < q
    · obtain ⟨m, hmE⟩ : ∃ m, m = (p + q) / 2 := ⟨_, rfl⟩
      have hm : m < l.length := by have := HI.out; omega
      obtain ⟨b, o, rfl, hc⟩ := HX.out (by intro h; subst h; simp at hm)
      have c0 := hc _ hm
      have j1 : decide ((p : Int) < (q : Int)) = true := by rw [decide_eq_true_iff]; omega
      have j2 : IntKind.i64.wrap ((p : Int) + (q : Int)) = ((p + q : Nat) : Int) := by have := HI.out; have := HL.out; rw [IntWalk.i64_in _ (by omega)]; omega
      have hbl := lt_of_cell c0
      have k1 : decide ((m : Int) < (l.length : Int)) = true := by rw [decide_eq_true_iff]; omega
      have k2 : (0 : Int) ≤ (m : Int) := by omega
      have k3 : IntKind.i64.wrap ((m : Int) + 1) = ((m + 1 : Nat) : Int) := by have := HL.out; rw [IntWalk.i64_in _ (by omega)]; omega
      have j5 : wrap64 (IntKind.u64.wrap ((p : Int) + (q : Int)) / 2) = (m : Int) := by
        have h1 := HI.out
        have h2 := HL.out
        have e1 : IntKind.u64.wrap ((p : Int) + (q : Int)) = (p : Int) + (q : Int) := by simp [IntKind.wrap, IntKind.signed, IntKind.bits]; omega
        rw [e1]
        have e2 : ((p : Int) + (q : Int)) / 2 = (m : Int) := by omega
        rw [e2]
        unfold wrap64
        omega
      have HM := hid hmE
      clear hc hmE
      go_wp2_with fail
      refine (less_any _ _ _).mono ?_
      rintro e' w1 ⟨rfl, rfl⟩
      by_cases hc : l[m] < i
      · have hc' : decide ((l[m] : Int) < (i : Int)) = true := by rw [decide_eq_true_iff]; omega
        have HC := hid hc
        rw [hc']
        clear hc hc'
        go_wp2_with fail
        go_roundw
        case rel =>
          refine ⟨m + 1, q, by simp, rfl, hid ⟨?_, HI.out.2.1, HI.out.2.2⟩, (by first | trivial | rfl)⟩
          rcases Nat.lt_or_ge m P with h | h
          · omega
          · have := HSP.out.2 m hm h; have := HC.out; omega
        case measure =>
          have := HM.out; simp [intOf]; omega
      · have hc' : decide ((l[m] : Int) < (i : Int)) = false := by rw [decide_eq_false_iff_not]; omega
        have HC := hid hc
        rw [hc']
        clear hc hc'
        go_wp2_with fail
        go_roundw
        case rel =>
          refine ⟨p, m, rfl, rfl, hid ⟨HI.out.1, ?_, by have := HI.out; omega⟩, (by first | trivial | rfl)⟩
          rcases Nat.lt_or_ge m P with h | h
          · have := HSP.out.1 m hm h; exact absurd this HC.out
          · exact h
        case measure =>
          have := HM.out
          simp [intOf]; omega
    · obtain rfl : p = P := by have := HI.out; omega
      have j1 : decide ((p : Int) < (q : Int)) = false := by rw [decide_eq_false_iff_not]; omega
      by_cases hpl : p < l.length
      · obtain ⟨b, o, rfl, hc⟩ := HX.out (by intro h; subst h; simp at hpl)
        have c0 := hc _ hpl
        have hbl := lt_of_cell c0
        have k1 : decide ((p : Int) < (l.length : Int)) = true := by rw [decide_eq_true_iff]; omega
        have k2 : (0 : Int) ≤ (p : Int) := by omega
        by_cases he : l[p] = i
        · have e1 : ((l[p] : Int) == (i : Int)) = true := by rw [beq_iff_eq]; omega
          have hdt : d = true := by rw [HD.out, decide_eq_true_iff]; exact HPM.out.2 ⟨hpl, he⟩
          subst hdt
          clear hc he
          go_wp2_with fail
          go_ret2
          exact ⟨rfl, rfl⟩
        · have e1 : ((l[p] : Int) == (i : Int)) = false := by rw [beq_eq_false_iff_ne]; omega
          have hdt : d = false := by rw [HD.out, decide_eq_false_iff_not]; exact fun h => he (HPM.out.1 h).2
          subst hdt
          clear hc he
          go_wp2_with fail
          refine (HN.out _ _).mono ?_
          rintro e' w1 ⟨rfl, rfl⟩
          go_wp2_with fail
          go_ret2
          exact ⟨rfl, rfl⟩
      · have k1 : decide ((p : Int) < (l.length : Int)) = false := by rw [decide_eq_false_iff_not]; omega
        have hdt : d = false := by rw [HD.out, decide_eq_false_iff_not]; exact fun h => hpl (HPM.out.1 h).1
        subst hdt
        go_wp2_with fail
        go_ret2
        exact ⟨rfl, rfl⟩
end Go.Proofs.YtnmbacleaijhmaaDoor
/-
  What Kept holds in memory between its rounds: what is to do, in a box; what is kept; the marks of the ranges that are over.
-/
namespace Go.Proofs.YtnmbacleaijhmaaDoor
set_option linter.unusedVariables false
set_option linter.unusedSimpArgs false
set_option linter.unusedVariables false
open Go Go.RowKit
def natI (l : List Nat) : List Int := l.map fun i : Nat => (i : Int)
theorem natI_len (l : List Nat) : (natI l).length = l.length := List.length_map ..
theorem natI_snoc (l : List Nat) (i : Nat) : natI (l ++ [i]) = natI l ++ [(i : Int)] := by unfold natI; rw [List.map_append]; rfl
def natV (l : List Nat) : List Value := l.map fun i : Nat => .int .i64 (i : Int)
theorem natV_len (l : List Nat) : (natV l).length = l.length := List.length_map ..
theorem natV_one (l : List Nat) : ∀ u ∈ natV l, u.oneCell' = true := by
  intro u hu
  obtain ⟨i, _, rfl⟩ := List.mem_map.1 hu
  rfl
theorem natV_ins (l : List Nat) (i : Nat) : (natV l).take (placeN l i) ++ [.int .i64 (i : Int)] ++ (natV l).drop (placeN l i) = natV (insN l i) := by
  unfold natV insN
  rw [List.map_append, List.map_cons, List.map_take, List.map_drop, List.append_assoc]
  rfl
theorem rdNats_of_own {W : World} {n₀ e : Nat} {v : Value} {l : List Nat} (h : W.ownsRow n₀ e 1 v l.length (natV l)) : RdNats W l v := by
  have h0 := h
  rcases h.2 with ⟨rfl, hn⟩ | ⟨g, cap, cur, rfl, hb, hg, h1, h2, h3, h4⟩
  · exact ⟨none, 0, by rw [hn], fun hne => absurd (List.eq_nil_of_length_eq_zero hn) hne⟩
  · refine ⟨_, cap, rfl, fun _ => ⟨g, 0, rfl, fun k hk => ?_⟩⟩
    rw [Nat.zero_add, h0.cellAt k (by omega)]
    unfold natV
    rw [List.getElem?_map, List.getElem?_eq_getElem hk]; rfl
/-- The marks of the ranges that are over. -/
def Marks (Ds : List Nat) (W : World) : Prop := Ds.Nodup ∧ ∀ D ∈ Ds, W.heap[D]? = some (.deferred (some []))
theorem Marks.lt {Ds : List Nat} {W : World} (h : Marks Ds W) : ∀ D ∈ Ds, D < W.heap.size := fun D hD => (Array.getElem?_eq_some_iff.1 (h.2 D hD)).1
def markD (D : Nat) : Deferred := { target := .collected D, args := #[] }
def takeD (Ds : List Nat) (W : World) : World := Ds.foldl (fun W D => W.putObj D (.deferred none)) W
theorem leaves_marks {F : Fence} {n : Nat} {P : Program} {fn : Func} {tmps : Array Value} {R : Ending → World → Prop} : ∀ (Ds : List Nat) (W : World), Marks Ds W → LeavesInM F n P fn tmps R [] .returning (takeD Ds W) → LeavesInM F n P fn tmps R (Ds.map markD) .returning W
  | [], W, _, h => h
  | D :: Ds, W, hm, h => by
    have hD := hm.2 D (List.mem_cons_self ..)
    have hn := List.nodup_cons.1 hm.1
    refine ⟨by simp, .inl ⟨D, _, rfl, run_takeDeferred hD, ?_⟩⟩
    refine leaves_marks Ds _ ⟨hn.2, fun D' hD' => ?_⟩ h
    have hne : D' ≠ D := fun e => hn.1 (by rw [← e]; exact hD')
    rw [World.putObj_heap_other hne]
    exact hm.2 D' (List.mem_cons_of_mem _ hD')
theorem takeD_block {W : World} : ∀ (Ds : List Nat) (W : World) (k : Nat), k ∉ Ds → (takeD Ds W).heap[k]? = W.heap[k]?
  | [], W, k, _ => rfl
  | D :: Ds, W, k, h => by
    show (takeD Ds (W.putObj D (.deferred none))).heap[k]? = _
    rw [takeD_block (W := W) Ds _ k (fun hm => h (List.mem_cons_of_mem _ hm)), World.putObj_heap_other (fun e => h (by rw [e]; exact List.mem_cons_self ..))]
theorem takeD_out : ∀ (Ds : List Nat) (W : World), (takeD Ds W).os = W.os ∧ (takeD Ds W).tape = W.tape ∧ (takeD Ds W).output = W.output ∧ (takeD Ds W).heap.size = W.heap.size
  | [], W => ⟨rfl, rfl, rfl, rfl⟩
  | D :: Ds, W => by
    obtain ⟨h1, h2, h3, h4⟩ := takeD_out Ds (W.putObj D (.deferred none))
    exact ⟨h1, h2, h3, h4.trans (by simp [World.putObj])⟩
/-- What Kept holds between its rounds. -/
structure KW (w0 : World) (bx : Nat) (vo : Value) (Ds todo out : List Nat) (v : Value) (W : World) : Prop where
  box : Blk W bx #[v] 29
  todo : QRow 3 w0.heap.size W v (natI todo)
  out : W.ownsRow w0.heap.size 3 1 vo out.length (natV out)
  sep : ∀ g, vo.ownBlock = some g → v.ownBlock ≠ some g
  low : Below w0.heap.size w0 W
  marks : Marks Ds W
  mlow : ∀ D ∈ Ds, w0.heap.size ≤ D
theorem outs_ne {W : World} {n₀ e size n : Nat} {v : Value} {xs : List Value} (h : W.ownsRow n₀ e size v n xs) {b : Nat} {o : Obj} (hb : W.heap[b]? = some o) (ho : ∀ c, o ≠ .cells c e (0, 0)) : v.ownBlock = none ∨ v.ownBlock ≠ some b := by
  rcases h.2 with ⟨rfl, _⟩ | ⟨g, cap, cur, rfl, _, hg, _⟩
  · exact .inl rfl
  · refine .inr fun e' => ?_
    have : g = b := by simpa [Value.ownBlock] using e'
    subst this
    rw [hg] at hb
    cases hb
    exact ho _ rfl
theorem marks_grew {Ds : List Nat} {W W' : World} {row : Option Nat} (h : Marks Ds W) (hg : W.grownBy W' row) (hr : ∀ D ∈ Ds, some D ≠ row) : Marks Ds W' :=
  ⟨h.1, fun D hD => by rw [hg.block D (h.lt D hD) (hr D hD)]; exact h.2 D hD⟩
theorem KW.grew {w0 : World} {bx : Nat} {vo : Value} {Ds todo out : List Nat} {v : Value} {W W' : World} (h : KW w0 bx vo Ds todo out v W) {row : Option Nat} (hg : W.grownBy W' row) (h1 : some bx ≠ row) (h2 : v.ownBlock = none ∨ v.ownBlock ≠ row) (h3 : vo.ownBlock = none ∨ vo.ownBlock ≠ row) (h4 : ∀ D ∈ Ds, some D ≠ row) (h5 : ∀ k, row = some k → w0.heap.size ≤ k) : KW w0 bx vo Ds todo out v W' :=
  ⟨h.box.grew hg h1, h.todo.kept hg h2, h.out.kept hg h3, h.sep, h.low.grown hg h.low.size h5, marks_grew h.marks hg h4, h.mlow⟩
theorem KW.still {w0 : World} {bx : Nat} {vo : Value} {Ds todo out : List Nat} {v : Value} {W W' : World} (h : KW w0 bx vo Ds todo out v W) (hb : Below W.heap.size W W') : KW w0 bx vo Ds todo out v W' :=
  h.grew (row := none) ⟨hb.os, hb.tape, hb.output, hb.size, fun k hk _ => hb.block k hk⟩ (by simp) (by cases v.ownBlock <;> simp) (by cases vo.ownBlock <;> simp) (by simp) (fun k e => by cases e)
/-- What is no cells, and none of the marks, is turned. -/
theorem KW.noCells {w0 : World} {bx : Nat} {vo : Value} {Ds todo out : List Nat} {v : Value} {W W' : World} (h : KW w0 bx vo Ds todo out v W) {row : Option Nat} (hg : W.grownBy W' row) {B : Nat} (hB : w0.heap.size ≤ B) (hD : ∀ D ∈ Ds, D < B) (hr : ∀ r, row = some r → B ≤ r ∧ ∃ o : Obj, W.heap[r]? = some o ∧ o.isCells = false) : KW w0 bx vo Ds todo out v W' :=
  ⟨h.box.noCells hg (fun r e => (hr r e).2), h.todo.noCells hg (fun r e => (hr r e).2),
    h.out.kept hg (by
      rcases hrow : row with _ | r
      · cases vo.ownBlock <;> simp
      · obtain ⟨_, o, ho, hc⟩ := hr r hrow
        exact outs_ne h.out ho (fun c e => by rw [e] at hc; cases hc)),
    h.sep, h.low.grown hg h.low.size (fun k e => Nat.le_trans hB (hr k e).1), marks_grew h.marks hg (fun D hm e => by have := (hr D e.symm).1; have := hD D hm; omega), h.mlow⟩
/-- The box is stored into. -/
theorem KW.stored {w0 : World} {bx : Nat} {vo : Value} {Ds todo out : List Nat} {v v' : Value} {todo' : List Nat} {W : World} (h : KW w0 bx vo Ds todo out v W) (hq : QRow 3 w0.heap.size W v' (natI todo')) (hs : ∀ g, vo.ownBlock = some g → v'.ownBlock ≠ some g) (hbx : w0.heap.size ≤ bx) : KW w0 bx vo Ds todo' out v' (W.setCell ⟨bx, 0, none⟩ v') := by
  have hg : W.grownBy (W.setCell ⟨bx, 0, none⟩ v') (some bx) := ⟨rfl, rfl, rfl, by simp [World.setCell], fun k _ hk => Below.heap_setCell _ _ _ k (fun e => hk (by rw [e]))⟩
  refine ⟨by simpa using h.box.set 0 v', hq.other h.box (by decide) v', h.out.kept hg ?_, hs, h.low.grown hg h.low.size (fun k e => by cases e; exact hbx), marks_grew h.marks hg (fun D hm e => ?_), h.mlow⟩
  · have hb := h.box
    unfold Blk at hb
    exact outs_ne h.out hb (fun c e => by injection e with _ e _; exact absurd e (by decide))
  · cases e
    have hb := h.box
    unfold Blk at hb
    rw [h.marks.2 bx hm] at hb
    cases hb
/-- One number more is to do: behind the append, and the store. -/
theorem KW.pushed {w0 : World} {bx : Nat} {vo : Value} {Ds todo out : List Nat} {v v' : Value} {i : Nat} {W W1 : World} (h : KW w0 bx vo Ds todo out v W) (hq : QRow 3 w0.heap.size W1 v' (natI todo ++ [(i : Int)])) (hg : W.grownBy W1 v.ownBlock) (ho : v'.ownBlock = v.ownBlock ∨ ∃ q, v'.ownBlock = some q ∧ W.heap.size ≤ q) (hbx : w0.heap.size ≤ bx) :
    KW w0 bx vo Ds (todo ++ [i]) out v' (W1.setCell ⟨bx, 0, none⟩ v') ∧ Blk W1 bx #[v] 29 := by
  have hvlt := h.todo.lt
  have hsep : ∀ g, vo.ownBlock = some g → v.ownBlock ≠ some g := h.sep
  have hout : W1.ownsRow w0.heap.size 3 1 vo out.length (natV out) := h.out.kept hg (by
    rcases hv : vo.ownBlock with _ | g
    · exact .inl rfl
    · exact .inr (fun e => hsep g hv e.symm))
  have hbox : Blk W1 bx #[v] 29 := h.box.grew hg (h.todo.ne h.box (by decide))
  have hmk : ∀ D ∈ Ds, some D ≠ v.ownBlock := by
    intro D hD e
    obtain ⟨_, _, cur, hc⟩ := hvlt D e.symm
    rw [h.marks.2 D hD] at hc; cases hc
  have hlow : Below w0.heap.size w0 W1 := h.low.grown hg h.low.size (fun k e => (hvlt k e).1)
  have hs' : ∀ g, vo.ownBlock = some g → v'.ownBlock ≠ some g := by
    intro g hgv e
    rcases ho with ho | ⟨q, ho, hq'⟩
    · exact hsep g hgv (ho ▸ e)
    · have : q = g := by rw [ho] at e; cases e; rfl
      subst this
      have := (h.out.lt q hgv).2
      omega
  have h' : KW w0 bx vo Ds todo out v W1 ∨ True := .inr trivial
  have hgs : W1.grownBy (W1.setCell ⟨bx, 0, none⟩ v') (some bx) := ⟨rfl, rfl, rfl, by simp [World.setCell], fun k _ hk => Below.heap_setCell _ _ _ k (fun e => hk (by rw [e]))⟩
  have hm1 := marks_grew h.marks hg hmk
  refine ⟨⟨by simpa using hbox.set 0 v', by rw [natI_snoc]; exact hq.other hbox (by decide) v', hout.kept hgs ?_, hs', hlow.grown hgs hlow.size (fun k e => by cases e; exact hbx), marks_grew hm1 hgs (fun D hm e => ?_), h.mlow⟩, hbox⟩
  · have hb := hbox
    unfold Blk at hb
    exact outs_ne hout hb (fun c e => by injection e with _ e _; exact absurd e (by decide))
  · cases e
    have hb := hbox
    unfold Blk at hb
    rw [hm1.2 bx hm] at hb
    cases hb
/-- One more is kept: behind slices.Insert. -/
theorem KW.inserted {w0 : World} {bx : Nat} {vo vo' : Value} {Ds todo out out' : List Nat} {v : Value} {W W1 : World} (h : KW w0 bx vo Ds todo out v W) (ho : W1.ownsRow w0.heap.size 3 1 vo' out'.length (natV out')) (hg : W.grownBy W1 vo.ownBlock) (hw : vo'.ownBlock = vo.ownBlock ∨ ∃ q, vo'.ownBlock = some q ∧ W.heap.size ≤ q) : KW w0 bx vo' Ds todo out' v W1 := by
  have h2 : v.ownBlock = none ∨ v.ownBlock ≠ vo.ownBlock := by
    rcases hv : v.ownBlock with _ | g
    · exact .inl rfl
    · exact .inr (fun e => h.sep g e.symm hv)
  refine ⟨h.box.grew hg (fun e => ?_), h.todo.kept hg h2, ho, fun g hgv e => ?_, h.low.grown hg h.low.size (fun k e => (h.out.lt k e).1), marks_grew h.marks hg (fun D hm e => ?_), h.mlow⟩
  · rcases h.out.2 with ⟨rfl, _⟩ | ⟨g, cap, cur, rfl, _, hgb, _⟩
    · cases e
    · have hb := h.box
      unfold Blk at hb
      have : bx = g := by simpa [Value.ownBlock] using e
      subst this
      rw [hb] at hgb
      injection hgb with hgb
      injection hgb with _ e2 _
      exact absurd e2 (by decide)
  · rcases hw with hw | ⟨q, hw, hq⟩
    · exact h.sep g (hw ▸ hgv) e
    · have : q = g := by rw [hw] at hgv; cases hgv; rfl
      subst this
      have := (h.todo.lt q e).2.1
      omega
  · rcases h.out.2 with ⟨rfl, _⟩ | ⟨g, cap, cur, rfl, _, hgb, _⟩
    · cases e
    · have : D = g := by simpa [Value.ownBlock] using e
      subst this
      rw [h.marks.2 D hm] at hgb; cases hgb
/-- A range is over: its mark. -/
theorem KW.marked {w0 : World} {bx : Nat} {vo : Value} {Ds todo out : List Nat} {v : Value} {W : World} (h : KW w0 bx vo Ds todo out v W) {D B : Nat} (hB : w0.heap.size ≤ B) (hD : B ≤ D) (hlt : ∀ D' ∈ Ds, D' < B) (hd : W.heap[D]? = some (.deferred (some []))) : KW w0 bx vo (D :: Ds) todo out v W :=
  ⟨h.box, h.todo, h.out, h.sep, h.low, ⟨List.nodup_cons.2 ⟨fun hm => by have := hlt D hm; omega, h.marks.1⟩, fun D' hD' => by
    rcases List.mem_cons.1 hD' with rfl | hm
    · exact hd
    · exact h.marks.2 D' hm⟩, fun D' hD' => by
    rcases List.mem_cons.1 hD' with rfl | hm
    · omega
    · exact h.mlow D' hm⟩
/-- At the end the marks are taken. -/
theorem KW.ended {w0 : World} {bx : Nat} {vo : Value} {Ds todo out : List Nat} {v : Value} {W : World} (h : KW w0 bx vo Ds todo out v W) : (takeD Ds W).ownsRow w0.heap.size 3 1 vo out.length (natV out) ∧ Below w0.heap.size w0 (takeD Ds W) := by
  obtain ⟨e1, e2, e3, e4⟩ := takeD_out Ds W
  constructor
  · refine ⟨h.out.1, ?_⟩
    rcases h.out.2 with hn | ⟨g, cap, cur, rfl, hb, hg, rest⟩
    · exact .inl hn
    · refine .inr ⟨g, cap, cur, rfl, hb, ?_, rest⟩
      rw [takeD_block (W := W) Ds W g (fun hm => by rw [h.marks.2 g hm] at hg; cases hg)]
      exact hg
  · exact ⟨e1.trans h.low.os, e2.trans h.low.tape, e3.trans h.low.output, by rw [e4]; exact h.low.size, fun k hk => by
      rw [takeD_block (W := W) Ds W k (fun hm => by have := h.mlow k hm; omega)]
      exact h.low.block k hk⟩
end Go.Proofs.YtnmbacleaijhmaaDoor
/-
  Walk: slice.Kept.
-/
namespace Go.Proofs.YtnmbacleaijhmaaDoor
set_option linter.unusedVariables false
set_option linter.unusedSimpArgs false
set_option linter.unusedVariables false
open Go Go.RowKit
attribute [local go_sem] Oper.semAt_some
def lenV : Value → Nat
  | .slice _ n _ => n
  | _ => 0
def lenC : Option Value → Nat
  | some v => lenV v
  | none => 0
def RdI (w : World) (l : List Int) (v : Value) : Prop := ∃ a cap, v = .slice a l.length cap ∧ l.length ≤ 9223372036854775807 ∧ (∀ y ∈ l, B64 y) ∧ (l ≠ [] → ∃ b o, a = some ⟨b, o, none⟩ ∧ ∀ k (h : k < l.length), w.cell? ⟨b, o + k, none⟩ = some (.int .i64 l[k])) ∧ (a = none → cap = 0)
theorem RdI.below {w w' : World} (hb : Below w.heap.size w w') {l : List Int} {v : Value} (h : RdI w l v) : RdI w' l v := by
  obtain ⟨a, cap, h1, h2, h3, h4, h0⟩ := h
  refine ⟨a, cap, h1, h2, h3, fun hn => ?_, h0⟩
  obtain ⟨b, o, h5, h6⟩ := h4 hn
  exact ⟨b, o, h5, fun k hk => later hb (h6 k hk)⟩
def vf (L : List Att) (v : Int) : Option Nat := if 0 ≤ writerL L v (topL L) then some (writerL L v (topL L)).toNat else none
theorem rootsV_take (L : List Att) (vars : List Int) (k : Nat) (h : k < vars.length) : rootsV L (vars.take (k + 1)) = rootsV L (vars.take k) ++ (vf L vars[k]).toList := by
  unfold rootsV
  rw [List.take_succ_eq_append_getElem h, List.filterMap_append]
  simp only [List.filterMap_cons, List.filterMap_nil]
  by_cases h0 : 0 ≤ writerL L vars[k] (topL L) <;> simp [vf, h0]
def of_ (L : List Att) (i : Nat) : Bool := openB (L.getD i Att.zero)
theorem rootsO_take (L : List Att) (k : Nat) : (List.range (k + 1)).filter (of_ L) = (List.range k).filter (of_ L) ++ (if of_ L k = true then [k] else []) := by
  rw [List.range_succ, List.filter_append]
  simp only [List.filter_cons, List.filter_nil]
theorem qrow_shape {e n₀ : Nat} {W : World} {v : Value} {xs : List Int} (h : QRow e n₀ W v xs) : ∃ a n c, v = .slice a n c := by
  obtain ⟨a, c, h⟩ := h.shape
  exact ⟨a, _, c, h⟩
theorem infoI : (Tryd.prog.info? 3).map (fun i => (i.zero, i.size, i.bytes)) = some (some (.int .i64 0), 1, 8) := by kernel_rfl
theorem kw_new (w : World) : KW w w.heap.size (.slice none 0 0) [] [] [] (.slice none 0 0) (w.alloc (.cells #[.slice none 0 0] 29)) :=
  ⟨Blk.new _ _ _, QRow.nil _ _ _, World.ownsRow_nil _ _ _ _, fun g h => by simp [Value.ownBlock] at h, ext_alloc (ext_refl _) _, ⟨List.nodup_nil, fun D h => by simp at h⟩, fun D h => by simp at h⟩
theorem cell_new_one (w : World) (v : Value) (t : TypeId) : (w.alloc (.cells #[v] t)).cell? ⟨w.heap.size, 0, none⟩ = some v := (Blk.new w #[v] t).cell 0 rfl
theorem rootsV_len (L : List Att) (vars : List Int) (k : Nat) : (rootsV L (vars.take k)).length ≤ (roots L vars).length := by
  unfold roots
  rw [List.length_append]
  have := ((List.take_sublist k vars).filterMap (fun v : Int => if 0 ≤ writerL L v (topL L) then some (writerL L v (topL L)).toNat else none)).length_le
  show ((vars.take k).filterMap _).length ≤ (vars.filterMap _).length + _
  omega
theorem rootsO_len (L : List Att) (vars : List Int) {k : Nat} (hk : k ≤ L.length) : (rootsV L vars ++ (List.range k).filter (of_ L)).length ≤ (roots L vars).length := by
  unfold roots
  rw [List.length_append, List.length_append]
  have := ((List.range_sublist.2 hk).filter (of_ L)).length_le
  show _ + _ ≤ _ + ((List.range L.length).filter (of_ L)).length
  omega
theorem KW.meas {w0 : World} {bx : Nat} {vo : Value} {Ds todo out : List Nat} {v : Value} {W : World} (h : KW w0 bx vo Ds todo out v W) : lenV vo = out.length ∧ lenC (W.cell? ⟨bx, 0, none⟩) = todo.length := by
  constructor
  · rcases h.out.2 with ⟨rfl, hn⟩ | ⟨g, cap, cur, rfl, _⟩
    · exact hn.symm
    · rfl
  · rw [h.box.cell 0 (v := v) rfl]
    obtain ⟨a, c, rfl⟩ := h.todo.shape
    exact natI_len _
theorem KW.pushed_keeps {w0 : World} {bx : Nat} {vo : Value} {Ds todo out : List Nat} {v : Value} {W W1 : World} (h : KW w0 bx vo Ds todo out v W) {o : Obj} (hg : (W.alloc o).grownBy W1 v.ownBlock) (hbx : w0.heap.size ≤ bx) (v' : Value) :
    KeepsOthers W (W1.setCell ⟨bx, 0, none⟩ v') ∧ Below w0.heap.size W (W1.setCell ⟨bx, 0, none⟩ v') ∧ ∀ b cs t, t ≠ 3 → t ≠ 29 → Blk W b cs t → Blk (W1.setCell ⟨bx, 0, none⟩ v') b cs t := by
  have hv := (h.todo.alloc o).lt
  have hgs : W1.grownBy (W1.setCell ⟨bx, 0, none⟩ v') (some bx) := ⟨rfl, rfl, rfl, by simp [World.setCell], fun k _ hk => Below.heap_setCell _ _ _ k (fun e => hk (by rw [e]))⟩
  have hle := h.low.size
  refine ⟨((KeepsOthers.alloc _ _).trans (KeepsOthers.of_grownBy hg fun j o' ej hj => ?_)).trans (KeepsOthers.setCell _ _ _), ((((Below.refl _ W).alloc hle o).grown hg (by rw [World.size_alloc]; omega) (fun k e => (hv k e).1))).setCell (p := ⟨bx, 0, none⟩) hbx v', fun b cs t h1 h2 hb => ?_⟩
  · obtain ⟨_, _, cur, hc⟩ := hv j ej
    rw [hc] at hj; cases hj; rfl
  · have hb1 := hb.alloc o
    have hb2 := hb1.grew hg ((h.todo.alloc o).ne hb1 h1)
    refine hb2.set_other _ _ (fun e => ?_)
    have hbx' := (h.box.alloc o).grew hg ((h.todo.alloc o).ne (h.box.alloc o) (by decide))
    unfold Blk at hbx' hb2
    rw [e] at hb2
    rw [hbx'] at hb2
    injection hb2 with hb2
    injection hb2 with _ e2 _
    exact h2 e2.symm
def askK (L : List Att) (a : Att) (k : Nat) : Nat := (asked L a).getD k 0
/-- What a range over asked may lean on. -/
theorem asked_runs (n : Nat) (hn : 1 ≤ n) (B1 B2 : Nat) (L : List Att) (sv : Value) (a : Att) (r u : Value) (w0 W4 : World) (hL : RdAtts w0 L sv) (ha : RdPairs w0 a.reads r) (ha' : RdPairs w0 a.writes u) (hb : Below w0.heap.size w0 W4)
    (h1 : Blk W4 B1 (attC a r u) 27) (h2 : Blk W4 B2 #[sv] 23) :
    SeqRuns Fence.wide n Tryd.prog 35 #[.pointer (some ⟨B1, 0, none⟩), .pointer (some ⟨B2, 0, none⟩)] (fun k => #[.int .i64 (askK L a k : Nat)]) (asked L a).length (KeepA w0.heap.size B1 B2 (attC a r u) #[sv]) W4 := by
  intro l J W hW hab hY h0
  exact asked_in n hn l B1 B2 L sv a r u w0 J W hab hL ha ha' (ext_trans hb hW) hY (h1.below hW) (h2.below hW) h0
set_option maxRecDepth 100000 in
set_option maxHeartbeats 8000000 in
theorem kept_any (L : List Att) (vars : List Int) (w : World) (vl vv : Value) (hL : RdAtts w L vl) (hV : RdI w vars vv) (hbig : (roots L vars).length + L.length * askN L ≤ 1000000000000) (hlen : L.length ≤ 1000000000) :
    Calls Tryd.prog 10 #[vl, vv] w fun e w' => ∃ v, e = .returned v ∧ w'.ownsRow w.heap.size 3 1 v (keptL L vars).length (natV (keptL L vars)) ∧ Below w.heap.size w w' := by
  obtain ⟨x, cap, rfl, hLl, hx⟩ := id hL
  obtain ⟨y, ycap, rfl, hVl, hVo, hy, -⟩ := id hV
  obtain ⟨i0, hi0, hz0, hz1, hz2⟩ := info_parts infoI
  have HX := hid hx
  have HY := hid hy
  have HL := hid hL
  have HV := hid hV
  have HBIG := hid hbig
  have HN := hid hlen
  have hn0 : w.heap.size ≤ w.heap.size := Nat.le_refl _
  clear hx hy hL hV hbig hVo hlen
  refine (callsIn_wide (n := 4)).1 ?_
  refine callsIn_of_wp_marks Tryd.func10 rfl trivial ?_ rfl
  simp only [Tryd.ntmps10, List.size_toArray, List.length_cons, List.length_nil, Nat.reduceAdd, Nat.reduceSub, Array.replicate_succ, Array.replicate_zero, List.push_toArray, List.append_toArray, List.nil_append, List.cons_append]
  gi_wp2_with (refine ⟨trivial, ?_⟩; gi_at_call 18; refine (callsIn_wide.2 (top_any L _ _ (HL.out.below (ext_alloc (ext_refl _) (.cells #[.slice none 0 0] 29))))).mono ?_; rintro e' w1 ⟨rfl, hb1⟩)
  have HK0 := hid ((kw_new w).still hb1)
  clear hb1
  gi_loopw [21] (fun i wr => ∃ (k : Nat) (v : Value), k ≤ vars.length ∧ i = .int .i64 (k : Int) ∧ Hid (KW w w.heap.size (.slice none 0 0) [] (rootsV L (vars.take k)) [] v wr)) (fun i _ => vars.length - (intOf i).toNat)
  case atStart => exact ⟨0, _, Nat.zero_le _, rfl, HK0⟩
  case round =>
    obtain ⟨k, v, hk, rfl, HK⟩ := hrel
    by_cases hlt : k < vars.length
    · obtain ⟨b, o, rfl, hcell⟩ := HY.out (by intro h; rw [h] at hlt; simp at hlt)
      have d0 := later HK.out.low (hcell k hlt)
      have hbl := lt_of_cell d0
      have c0 := HK.out.box.cell 0 (v := v) rfl
      have j1 : decide ((k : Int) < (vars.length : Int)) = true := by rw [decide_eq_true_iff]; omega
      have j2 : (0 : Int) ≤ (k : Int) := by omega
      have j3 : IntKind.i64.wrap ((k : Int) + 1) = (k : Int) + 1 := IntWalk.i64_in _ (by omega)
      have j4 : decide (k < vars.length) = true := by rw [decide_eq_true_iff]; omega
      have HT := hid (rootsV_take L vars k hlt)
      have HF : Hid (vf L vars[k] = if 0 ≤ writerL L vars[k] (topL L) then some (writerL L vars[k] (topL L)).toNat else none) := hid rfl
      have HLT := hid hlt
      have HW := hid (writer_any L vars[k] (topL L) wr _ (HL.out.below HK.out.low))
      generalize writerL L vars[k] (topL L) = q at HW HF
      generalize vf L vars[k] = vk at HT HF
      clear hcell
      by_cases hq : (0 : Int) ≤ q
      · obtain ⟨m, rfl⟩ : ∃ m : Nat, q = (m : Int) := ⟨q.toNat, by omega⟩
        have hvk : vk = some m := by rw [HF.out, if_pos hq]; simp
        gi_wp2_with (first
          | (refine ⟨trivial, ?_⟩; gi_at_call 19; refine (callsIn_wide.2 HW.out).mono ?_; rintro e' w2 ⟨rfl, hb2⟩; have HK2 := hid (HK.out.still hb2); have c2 := HK2.out.box.cell 0 (v := v) rfl)
          | (gi_at_builtin; refine wpListIn_append_q _ rfl _ _ 29 rfl w.heap.size 3 i0 Tryd.underlying29 hi0 hz0 hz1 hz2 v _ rfl (HK2.out.todo.alloc _) ⟨w2.heap.size, 0, none⟩ 1 (m : Int) rfl (cell_new_one _ _ _) (by rw [natI_len]; have := rootsV_len L vars k; have := HBIG.out; omega) (by rw [World.size_alloc]; have := HK2.out.low.size; omega) ?_; intro v' w3 hq3 hg3 ho3; obtain ⟨HK3, HX3⟩ := (HK2.out.still (ext_alloc (ext_refl _) _)).pushed hq3 hg3 ho3 hn0; obtain ⟨sa, sn, sc, rfl⟩ := qrow_shape hq3; have c3 := HX3.cell 0 (v := v) rfl; have f3 := HX3.free 0; have HK3 := hid HK3; clear hq3 hg3 ho3))
        go_roundw
        case rel => exact ⟨k + 1, _, HLT.out, by simp, hid (by rw [HT.out, hvk]; exact HK3.out)⟩
        case measure => have := HLT.out; simp [intOf]; omega
      · have hvk : vk = none := by rw [HF.out, if_neg hq]
        have hq' : decide ((0 : Int) ≤ q) = false := decide_eq_false hq
        gi_wp2_with (first
          | (refine ⟨trivial, ?_⟩; gi_at_call 19; refine (callsIn_wide.2 HW.out).mono ?_; rintro e' w2 ⟨rfl, hb2⟩; have HK2 := hid (HK.out.still hb2)))
        go_roundw
        case rel => exact ⟨k + 1, _, HLT.out, by simp, hid (by rw [HT.out, hvk]; simpa using HK2.out)⟩
        case measure => have := HLT.out; simp [intOf]; omega
    · obtain rfl : k = vars.length := by omega
      have HK1 : Hid (KW w w.heap.size (.slice none 0 0) [] (rootsV L vars ++ (List.range 0).filter (of_ L)) [] v wr) := hid (by have := HK.out; rw [List.take_length] at this; simpa using this)
      have j1 : decide ((vars.length : Int) < (vars.length : Int)) = false := by rw [decide_eq_false_iff_not]; omega
      have j4 : decide (vars.length < vars.length) = false := by rw [decide_eq_false_iff_not]; omega
      gi_wp2_with fail
      clear HK j1 j4
      gi_loopw [38] (fun i wr => ∃ (k : Nat) (v : Value), k ≤ L.length ∧ i = .int .i64 (k : Int) ∧ Hid (KW w w.heap.size (.slice none 0 0) [] (rootsV L vars ++ (List.range k).filter (of_ L)) [] v wr)) (fun i _ => L.length - (intOf i).toNat)
      case atStart => exact ⟨0, _, Nat.zero_le _, rfl, HK1⟩
      case round =>
        clear HK1
        obtain ⟨k, v, hk, rfl, HK⟩ := hrel
        by_cases hlt : k < L.length
        · obtain ⟨b, o, rfl, hcell⟩ := HX.out (by intro h; rw [h] at hlt; simp at hlt)
          obtain ⟨r9, u9, hc⟩ := hcell k hlt
          have hc := hc.below HK.out.low
          obtain ⟨a7, k7, hr7⟩ := hc.reads.shape
          obtain ⟨a8, k8, hr8⟩ := hc.writes.shape
          subst hr7 hr8
          have d0 := hc.c0
          have d1 := hc.c1
          have d2 := hc.c2
          have d3 := hc.c3
          have d4 := hc.c4
          have d5 := hc.c5
          have d6 := hc.c6
          have d7 := hc.c7
          have d8 := hc.c8
          have hbl := lt_of_cell d0
          have j1 : decide ((k : Int) < (L.length : Int)) = true := by rw [decide_eq_true_iff]; omega
          have j2 : (0 : Int) ≤ (k : Int) := by omega
          have j3 : IntKind.i64.wrap ((k : Int) + 1) = (k : Int) + 1 := IntWalk.i64_in _ (by omega)
          have j4 : decide (k < L.length) = true := by rw [decide_eq_true_iff]; omega
          have HLT := hid hlt
          have HT := hid (rootsO_take L k)
          have HTF : Hid (of_ L k = (decide (0 < L[k].wv) && decide (L[k].to_ = -1))) := hid (by
            show openB (L.getD k Att.zero) = _
            rw [List.getD_eq_getElem?_getD, List.getElem?_eq_getElem hlt]; rfl)
          have hlb := HK.out.box.lt
          have hA := ext_alloc (ext_refl wr) (.cells #[.int .i64 L[k].th, .int .i64 L[k].tx, .int .i64 L[k].from_, .int .i64 L[k].to_, .int .i64 L[k].rv, .int .i64 L[k].wv, .bool L[k].com, .slice a7 L[k].reads.length k7, .slice a8 L[k].writes.length k8] 27)
          have HK2 := hid (HK.out.still hA)
          have c2 := HK2.out.box.cell 0 (v := v) rfl
          have c3 := HK.out.box.cell 0 (v := v) rfl
          generalize of_ L k = tfk at HT HTF
          generalize L[k].wv = cwv at *
          generalize L[k].to_ = cto at *
          clear hc hcell hA
          by_cases h1 : (0 : Int) < cwv
          · by_cases h2 : cto = -1
            · subst h2
              have htk : tfk = true := by rw [HTF.out]; simp [h1]
              gi_wp2_with (gi_at_builtin; refine wpListIn_append_q _ rfl _ _ 29 rfl w.heap.size 3 i0 Tryd.underlying29 hi0 hz0 hz1 hz2 v _ rfl (HK2.out.todo.alloc _) ⟨wr.heap.size + 1, 0, none⟩ 1 (k : Int) rfl (by have := cell_new_one (wr.alloc (.cells #[.int .i64 L[k].th, .int .i64 L[k].tx, .int .i64 L[k].from_, .int .i64 (-1), .int .i64 L[k].rv, .int .i64 cwv, .bool L[k].com, .slice a7 L[k].reads.length k7, .slice a8 L[k].writes.length k8] 27)) (.int .i64 (k : Int)) 3; rwa [World.size_alloc] at this) (by rw [natI_len]; have := rootsO_len L vars (Nat.le_of_lt HLT.out); have := HBIG.out; omega) (by rw [World.size_alloc]; have := HK2.out.low.size; omega) ?_; intro v' w3 hq3 hg3 ho3; obtain ⟨HK3, HX3⟩ := (HK2.out.still (ext_alloc (ext_refl _) _)).pushed hq3 hg3 ho3 hn0; obtain ⟨sa, sn, sc, rfl⟩ := qrow_shape hq3; have c3 := HX3.cell 0 (v := v) rfl; have f3 := HX3.free 0; have HK3 := hid HK3; clear hq3 hg3 ho3)
              go_roundw
              case rel => exact ⟨k + 1, _, HLT.out, by simp, hid (by rw [HT.out, htk, if_pos rfl, ← List.append_assoc]; exact HK3.out)⟩
              case measure => have := HLT.out; simp [intOf]; omega
            · have htk : tfk = false := by rw [HTF.out]; simp [h2]
              have g2 : (cto == -1) = false := beq_eq_false_iff_ne.2 h2
              gi_wp2_with fail
              go_roundw
              case rel => exact ⟨k + 1, _, HLT.out, by simp, hid (by rw [HT.out, htk, if_neg (by decide), List.append_nil]; exact HK2.out)⟩
              case measure => have := HLT.out; simp [intOf]; omega
          · have htk : tfk = false := by rw [HTF.out]; simp [h1]
            have g1 : decide ((0 : Int) < cwv) = false := decide_eq_false h1
            gi_wp2_with fail
            go_roundw
            case rel => exact ⟨k + 1, _, HLT.out, by simp, hid (by rw [HT.out, htk, if_neg (by decide), List.append_nil]; exact HK2.out)⟩
            case measure => have := HLT.out; simp [intOf]; omega
        · obtain rfl : k = L.length := by omega
          have HK1 : Hid (KW w w.heap.size (.slice none 0 0) [] (roots L vars) [] v wr) := hid HK.out
          have j1 : decide ((L.length : Int) < (L.length : Int)) = false := by rw [decide_eq_false_iff_not]; omega
          have j4 : decide (L.length < L.length) = false := by rw [decide_eq_false_iff_not]; omega
          gi_wp2_with fail
          clear j1 j4 HK
          refine wpIn_loop (fun (a' : Act) (w' : World) => ∃ (u0 u1 u2 u3 u4 u5 u6 u7 u8 u9 u10 u11 u12 u13 u14 u15 u16 u17 u18 u19 u20 u21 u22 u23 u24 u25 u26 u27 u28 u29 u30 u31 u32 u33 u34 u35 u36 u37 u38 u39 u40 u41 u42 u43 u44 u45 u46 u47 u48 u49 u50 u51 u52 u53 u54 u55 u56 u57 u58 u59 u60 u61 u62 u63 u64 u65 u66 u67 u68 u69 u70 u71 u72 u73 u74 u75 u76 u77 u78 u79 u80 u81 u82 u83 u84 u85 u86 u87 : Value) (ds : List Deferred), (u0 = .slice x L.length cap ∧ u5 = .pointer (some ⟨w.heap.size, 0, none⟩) ∧ ∃ (Ds todo out : List Nat) (v : Value), ds = Ds.map markD ∧ Hid (KW w w.heap.size u12 Ds todo out v w') ∧ Hid (KeepI L (· ∈ roots L vars) todo out ∧ todo.length ≤ (roots L vars).length + out.length * askN L)) ∧ a' = { tmps := #[u0, u1, u2, u3, u4, u5, u6, u7, u8, u9, u10, u11, u12, u13, u14, u15, u16, u17, u18, u19, u20, u21, u22, u23, u24, u25, u26, u27, u28, u29, u30, u31, u32, u33, u34, u35, u36, u37, u38, u39, u40, u41, u42, u43, u44, u45, u46, u47, u48, u49, u50, u51, u52, u53, u54, u55, u56, u57, u58, u59, u60, u61, u62, u63, u64, u65, u66, u67, u68, u69, u70, u71, u72, u73, u74, u75, u76, u77, u78, u79, u80, u81, u82, u83, u84, u85, u86, u87], defers := ds }) (fun (a' : Act) (w' : World) => (L.length - lenV (a'.tmps.getD 12 undef)) * (askN L + 1) + lenC (w'.cell? ⟨w.heap.size, 0, none⟩)) ?_ ?_
          · (repeat apply Exists.intro)
            exact ⟨⟨rfl, rfl, [], roots L vars, [], v, rfl, HK1, hid ⟨KeepI.start L vars, by simp⟩⟩, rfl⟩
          intro a' wr2 hinv
          clear HK1
          obtain ⟨u0, hinv⟩ := hinv
          obtain ⟨u1, hinv⟩ := hinv
          obtain ⟨u2, hinv⟩ := hinv
          obtain ⟨u3, hinv⟩ := hinv
          obtain ⟨u4, hinv⟩ := hinv
          obtain ⟨u5, hinv⟩ := hinv
          obtain ⟨u6, hinv⟩ := hinv
          obtain ⟨u7, hinv⟩ := hinv
          obtain ⟨u8, hinv⟩ := hinv
          obtain ⟨u9, hinv⟩ := hinv
          obtain ⟨u10, hinv⟩ := hinv
          obtain ⟨u11, hinv⟩ := hinv
          obtain ⟨u12, hinv⟩ := hinv
          obtain ⟨u13, hinv⟩ := hinv
          obtain ⟨u14, hinv⟩ := hinv
          obtain ⟨u15, hinv⟩ := hinv
          obtain ⟨u16, hinv⟩ := hinv
          obtain ⟨u17, hinv⟩ := hinv
          obtain ⟨u18, hinv⟩ := hinv
          obtain ⟨u19, hinv⟩ := hinv
          obtain ⟨u20, hinv⟩ := hinv
          obtain ⟨u21, hinv⟩ := hinv
          obtain ⟨u22, hinv⟩ := hinv
          obtain ⟨u23, hinv⟩ := hinv
          obtain ⟨u24, hinv⟩ := hinv
          obtain ⟨u25, hinv⟩ := hinv
          obtain ⟨u26, hinv⟩ := hinv
          obtain ⟨u27, hinv⟩ := hinv
          obtain ⟨u28, hinv⟩ := hinv
          obtain ⟨u29, hinv⟩ := hinv
          obtain ⟨u30, hinv⟩ := hinv
          obtain ⟨u31, hinv⟩ := hinv
          obtain ⟨u32, hinv⟩ := hinv
          obtain ⟨u33, hinv⟩ := hinv
          obtain ⟨u34, hinv⟩ := hinv
          obtain ⟨u35, hinv⟩ := hinv
          obtain ⟨u36, hinv⟩ := hinv
          obtain ⟨u37, hinv⟩ := hinv
          obtain ⟨u38, hinv⟩ := hinv
          obtain ⟨u39, hinv⟩ := hinv
          obtain ⟨u40, hinv⟩ := hinv
          obtain ⟨u41, hinv⟩ := hinv
          obtain ⟨u42, hinv⟩ := hinv
          obtain ⟨u43, hinv⟩ := hinv
          obtain ⟨u44, hinv⟩ := hinv
          obtain ⟨u45, hinv⟩ := hinv
          obtain ⟨u46, hinv⟩ := hinv
          obtain ⟨u47, hinv⟩ := hinv
          obtain ⟨u48, hinv⟩ := hinv
          obtain ⟨u49, hinv⟩ := hinv
          obtain ⟨u50, hinv⟩ := hinv
          obtain ⟨u51, hinv⟩ := hinv
          obtain ⟨u52, hinv⟩ := hinv
          obtain ⟨u53, hinv⟩ := hinv
          obtain ⟨u54, hinv⟩ := hinv
          obtain ⟨u55, hinv⟩ := hinv
          obtain ⟨u56, hinv⟩ := hinv
          obtain ⟨u57, hinv⟩ := hinv
          obtain ⟨u58, hinv⟩ := hinv
          obtain ⟨u59, hinv⟩ := hinv
          obtain ⟨u60, hinv⟩ := hinv
          obtain ⟨u61, hinv⟩ := hinv
          obtain ⟨u62, hinv⟩ := hinv
          obtain ⟨u63, hinv⟩ := hinv
          obtain ⟨u64, hinv⟩ := hinv
          obtain ⟨u65, hinv⟩ := hinv
          obtain ⟨u66, hinv⟩ := hinv
          obtain ⟨u67, hinv⟩ := hinv
          obtain ⟨u68, hinv⟩ := hinv
          obtain ⟨u69, hinv⟩ := hinv
          obtain ⟨u70, hinv⟩ := hinv
          obtain ⟨u71, hinv⟩ := hinv
          obtain ⟨u72, hinv⟩ := hinv
          obtain ⟨u73, hinv⟩ := hinv
          obtain ⟨u74, hinv⟩ := hinv
          obtain ⟨u75, hinv⟩ := hinv
          obtain ⟨u76, hinv⟩ := hinv
          obtain ⟨u77, hinv⟩ := hinv
          obtain ⟨u78, hinv⟩ := hinv
          obtain ⟨u79, hinv⟩ := hinv
          obtain ⟨u80, hinv⟩ := hinv
          obtain ⟨u81, hinv⟩ := hinv
          obtain ⟨u82, hinv⟩ := hinv
          obtain ⟨u83, hinv⟩ := hinv
          obtain ⟨u84, hinv⟩ := hinv
          obtain ⟨u85, hinv⟩ := hinv
          obtain ⟨u86, hinv⟩ := hinv
          obtain ⟨u87, hinv⟩ := hinv
          obtain ⟨ds, hinv⟩ := hinv
          obtain ⟨⟨rfl, rfl, Ds, todo, out, v, rfl, HK, HI⟩, rfl⟩ := hinv
          have c0 := HK.out.box.cell 0 (v := v) rfl
          rcases todo with _ | ⟨i, todo⟩
          · have hv : ∃ a c, v = .slice a 0 c := by obtain ⟨a, c, h⟩ := HK.out.todo.shape; exact ⟨a, c, h⟩
            obtain ⟨sa, sc, rfl⟩ := hv
            gi_wp2_with fail
            refine leaves_marks Ds wr2 HK.out.marks ?_
            refine ⟨u12, by simp [results, Tryd.results10, go_sem], ?_⟩
            obtain ⟨q1, q2⟩ := HK.out.ended
            rw [keepI_kept HI.out.1] at q1
            exact ⟨u12, rfl, q1, q2⟩
          · obtain ⟨g, off, qc, rfl, hqc1, hqc2, hqm, hhead, hrest⟩ := HK.out.todo.head
            have hil : i < L.length := reach_lt (fun _ => roots_lt) (HI.out.1.todoR i (List.mem_cons_self ..))
            have hol : out.length ≤ L.length := out_len (fun _ => roots_lt) HI.out.1
            have hhl := lt_of_cell hhead
            have f0 := HK.out.box.free 0
            have hlb := HK.out.box.lt
            have HS : Hid (∃ z n c, (if qc = 1 then some (⟨g, off, none⟩ : Addr) else some ⟨g, off + 1, none⟩) = z) := hid ⟨_, 0, 0, rfl⟩
            obtain ⟨z, hz⟩ : ∃ z, z = (if qc = 1 then some (⟨g, off, none⟩ : Addr) else some ⟨g, off + 1, none⟩) := ⟨_, rfl⟩
            rw [← hz] at hrest
            have hsepr : ∀ g', u12.ownBlock = some g' → (Value.slice z (natI todo).length (qc - 1)).ownBlock ≠ some g' := by
              intro g' hg' e
              refine HK.out.sep g' hg' ?_
              rw [hz] at e
              split at e <;> exact e
            have HR := hid (HK.out.stored (todo' := todo) hrest hsepr (Nat.le_refl _))
            have nl : (natI todo).length = todo.length := natI_len _
            have nl2 : (List.map (fun i : Nat => (i : Int)) todo).length = todo.length := List.length_map ..
            simp only [nl, nl2] at c0 HR hqc2
            have p1 : decide ((0 : Int) < ((todo.length + 1 : Nat) : Int)) = true := by rw [decide_eq_true_iff]; omega
            have p2 : (1 : Int) ≤ ((todo.length + 1 : Nat) : Int) := by omega
            have p3 : (todo.length + 1) ≤ qc := hqc2
            have p4 : (1 : Int) ≤ (qc : Int) := by omega
            clear hrest hsepr HS nl nl2
            have HIL := hid hil
            obtain ⟨b, o, rfl, hcell⟩ := HX.out (by intro h; rw [h] at hil; simp at hil)
            obtain ⟨r9, u9', hc⟩ := hcell i hil
            have nl3 : todo.length + 1 ≤ qc := p3
            have HM0 := hid HK.out.meas
            clear HK hhl
            by_cases hq1 : qc = 1
            case' pos =>
              have hz1 : z = some ⟨g, off, none⟩ := by rw [hz, if_pos hq1]
              subst hz1
              subst hq1
              have hl0 : todo.length = 0 := by omega
              have HR5' : Hid (KW w w.heap.size u12 Ds todo out (.slice (some ⟨g, off, none⟩) 0 0) (wr2.setCell ⟨w.heap.size, 0, none⟩ (.slice (some ⟨g, off, none⟩) 0 0))) := hid (by have := HR.out; rw [hl0] at this; exact this)
              clear hz nl3 hl0 HR
              gi_wp2_with fail
              generalize wr2.setCell ⟨w.heap.size, 0, none⟩ (.slice (some ⟨g, off, none⟩) 0 0) = W5 at HR5' ⊢
              generalize (Value.slice (some ⟨g, off, none⟩) 0 0) = V5 at HR5'
              have HR5 := HR5'
            case' neg =>
              have hz1 : z = some ⟨g, off + 1, none⟩ := by rw [hz, if_neg hq1]
              subst hz1
              have p5 : ¬ qc - 1 = 0 := by omega
              have p6 : ¬ ((qc : Int) = 1) := by omega
              clear hz nl3
              gi_wp2_with fail
              generalize wr2.setCell ⟨w.heap.size, 0, none⟩ (.slice (some ⟨g, off + 1, none⟩) todo.length (qc - 1)) = W5 at HR ⊢
              generalize (Value.slice (some ⟨g, off + 1, none⟩) todo.length (qc - 1)) = V5 at HR
              have HR5 := HR
            all_goals (
              clear hhead c0 f0 p1 p2 p3 p4
              have HBS := bsearch_any out HI.out.1.sorted i W5 u12 (rdNats_of_own HR5.out.out) (by have := HN.out; omega)
              have HM5 := hid HR5.out.meas
              by_cases hm : i ∈ out
              case' pos =>
                rw [decide_eq_true hm] at HBS
                refine ⟨trivial, ?_⟩
                refine (callsIn_wide.2 HBS).mono ?_
                rintro e' w6 ⟨rfl, rfl⟩
                have HM := hid hm
                clear HBS hm
                gi_wp2_with fail
                have hlen : todo.length ≤ (roots L vars).length + out.length * askN L := by have := HI.out.2; rw [List.length_cons] at this; omega
                refine ⟨⟨_, _, _, _, _, _, _, _, _, _, _, _, _, _, _, _, _, _, _, _, _, _, _, _, _, _, _, _, _, _, _, _, _, _, _, _, _, _, _, _, _, _, _, _, _, _, _, _, _, _, _, _, _, _, _, _, _, _, _, _, _, _, _, _, _, _, _, _, _, _, _, _, _, _, _, _, _, _, _, _, _, _, _, _, _, _, _, _, _, ⟨rfl, rfl, Ds, todo, out, V5, rfl, HR5, hid ⟨HI.out.1.skip HM.out, hlen⟩⟩, rfl⟩, ?_⟩
                focus
                  have e1 := HM0.out
                  have e2 := HM5.out
                  show (L.length - lenV u12) * (askN L + 1) + lenC (w6.cell? ⟨w.heap.size, 0, none⟩) < (L.length - lenV u12) * (askN L + 1) + lenC (wr2.cell? ⟨w.heap.size, 0, none⟩)
                  rw [e1.2, e2.2, List.length_cons]; omega
              case' neg =>
                rw [decide_eq_false hm] at HBS
                refine ⟨trivial, ?_⟩
                refine (callsIn_wide.2 HBS).mono ?_
                rintro e' w6 ⟨rfl, rfl⟩
                have HM := hid hm
                clear HBS hm
                gi_wp2_with fail
                refine ⟨trivial, ?_⟩
                refine (callsIn_wide.2 (In.ins_any w.heap.size u12 out.length (placeN out i) w6.heap.size 1 (natV out) (.int .i64 (i : Int)) (w6.alloc (.cells #[.int .i64 (i : Int)] 3)) (HR5.out.out.alloc _) (natV_one _) rfl (placeN_le _ _) (Blk.new _ _ _) (fun e => by have := (HR5.out.out.lt _ e).2; omega) (by have := HN.out; omega) (by rw [World.size_alloc]; have := HR5.out.low.size; omega))).mono ?_
                rintro e' w7 ⟨vo', rfl, ho7, hg7, hw7⟩
                rw [natV_ins, ← insN_len out i] at ho7
                have HR7 := hid ((HR5.out.still (ext_alloc (ext_refl _) (.cells #[.int .i64 (i : Int)] 3))).inserted ho7 hg7 hw7)
                have hc7 := hc.below HR7.out.low
                obtain ⟨a7, k7, hr7⟩ := hc7.reads.shape
                obtain ⟨a8, k8, hr8⟩ := hc7.writes.shape
                subst hr7 hr8
                have d0 := hc7.c0
                have d1 := hc7.c1
                have d2 := hc7.c2
                have d3 := hc7.c3
                have d4 := hc7.c4
                have d5 := hc7.c5
                have d6 := hc7.c6
                have d7 := hc7.c7
                have d8 := hc7.c8
                have hbl := lt_of_cell d0
                have q1 : decide ((i : Int) < (L.length : Int)) = true := by rw [decide_eq_true_iff]; omega
                have q2 : (0 : Int) ≤ (i : Int) := by omega
                have q3 : decide (i < L.length) = true := by rw [decide_eq_true_iff]; omega
                have HAK := hid (asked_any (.slice (some ⟨b, o, none⟩) L.length cap) (some ⟨b, o, none⟩) L.length cap L[i] a7 L[i].reads.length k7 a8 L[i].writes.length k8 w7 rfl)
                unfold attC at HAK
                clear ho7 hg7 hw7
                gi_wp2_with fail
                refine ⟨trivial, ?_⟩
                refine (callsIn_wide.2 HAK.out).mono ?_
                rintro e' w8 ⟨rfl, hw8⟩
                have hB8 : Below w7.heap.size w7 w8 := by rw [hw8]; exact ext_alloc (ext_alloc (ext_refl _) _) _
                have hs8 : w8.heap.size = w7.heap.size + 2 := by rw [hw8, World.size_alloc, World.size_alloc]
                have hx2 : Blk w8 w7.heap.size #[.slice (some ⟨b, o, none⟩) L.length cap] 23 := by rw [hw8]; exact (Blk.new _ _ _).alloc _
                have hx1 : Blk w8 (w7.heap.size + 1) (attC L[i] (.slice a7 L[i].reads.length k7) (.slice a8 L[i].writes.length k8)) 27 := by rw [hw8]; exact Blk.new' _ _ _ (by rw [World.size_alloc])
                have HR8 := hid (HR7.out.still hB8)
                have HRUN := hid (asked_runs 3 (by omega) (w7.heap.size + 1) w7.heap.size L _ L[i] _ _ w w8 HL.out hc.reads hc.writes HR8.out.low hx1 hx2)
                have hDlt : ∀ D ∈ Ds, D < w8.heap.size := HR8.out.marks.lt
                have hle8 := HR8.out.low.size
                have HGD : Hid (L.getD i Att.zero = L[i]) := hid (by rw [List.getD_eq_getElem?_getD, List.getElem?_eq_getElem hil]; rfl)
                have HTK := hid (HI.out.1.take HM.out)
                have HAN := hid (askN_ge hil)
                rw [HGD.out] at HTK HAN
                have hlo : (insN out i).length ≤ L.length := out_len (fun _ => roots_lt) HTK.out
                have htl : todo.length + (asked L L[i]).length ≤ (roots L vars).length + (insN out i).length * askN L := by
                  have h1 := HI.out.2
                  have h2 := HAN.out
                  rw [List.length_cons] at h1
                  rw [insN_len, Nat.succ_mul]
                  omega
                have hbd : (roots L vars).length + (insN out i).length * askN L ≤ 1000000000000 := by
                  have := Nat.mul_le_mul_right (askN L) hlo
                  have := HBIG.out
                  omega
                have HBD := hid (And.intro hlo (And.intro htl hbd))
                have HX := hid (And.intro hx1 hx2)
                have HW8 := hid hw8
                clear hw8 d0 d1 d2 d3 d4 d5 d6 d7 d8 hx1 hx2 htl hbd hlo hB8
                gi_wp2_with fail
                apply wpIn_range_runs (encs := fun k => #[.int .i64 (askK L L[i] k : Nat)]) (Kp := KeepA w.heap.size (w7.heap.size + 1) w7.heap.size (attC L[i] (.slice a7 L[i].reads.length k7) (.slice a8 L[i].writes.length k8)) #[.slice (some ⟨b, o, none⟩) L.length cap]) (N := (asked L L[i]).length) (w0 := w8) rfl (by omega) (gf := 35) (lb := #[.pointer (some ⟨w7.heap.size + 1, 0, none⟩), .pointer (some ⟨w7.heap.size, 0, none⟩)]) rfl trivial (enters_of Tryd.func35 (by kernel_rfl) rfl) HRUN.out keepA_t (keepA_b hle8 (by omega) (by omega)) (Below.refl _ _) (fun _ => rfl)
                  (fun k W => ∃ v, KW w w.heap.size vo' Ds (todo ++ (asked L L[i]).take k) (insN out i) v W ∧ Blk W (w7.heap.size + 1) (attC L[i] (.slice a7 L[i].reads.length k7) (.slice a8 L[i].writes.length k8)) 27 ∧ Blk W w7.heap.size #[.slice (some ⟨b, o, none⟩) L.length cap] 23)
                  (fun k A B row h hg hr => by
                    obtain ⟨v, h, h1, h2⟩ := h
                    exact ⟨v, h.noCells hg hle8 hDlt hr, h1.noCells hg (fun r e => (hr r e).2), h2.noCells hg (fun r e => (hr r e).2)⟩)
                  ⟨V5, by simpa using HR8.out, HX.out.1, HX.out.2⟩
                case hassign =>
                  intro lp k W K hK
                  gi_wp2
                  exact hK
                case hbody =>
                  rintro lp k W ⟨v, hKW, hb1, hb2⟩ hk
                  have HKW := hid hKW
                  have c0 := hKW.box.cell 0 (v := v) rfl
                  have hbw := hKW.box.lt
                  have HTK : Hid ((asked L L[i]).take (k + 1) = (asked L L[i]).take k ++ [askK L L[i] k]) := hid (by
                    unfold askK
                    rw [List.take_succ_eq_append_getElem hk]
                    congr 2
                    rw [List.getD_eq_getElem?_getD, List.getElem?_eq_getElem hk]; rfl)
                  have HB12 := hid (And.intro hb1 hb2)
                  generalize askK L L[i] k = ak at HTK ⊢
                  have HKK := hid hk
                  clear hKW hb1 hb2 hk
                  gi_wp2_with (gi_at_builtin; refine wpListIn_append_q _ rfl _ _ 29 rfl w.heap.size 3 i0 Tryd.underlying29 hi0 hz0 hz1 hz2 v _ rfl (HKW.out.todo.alloc _) ⟨W.heap.size, 0, none⟩ 1 (ak : Int) rfl (cell_new_one _ _ _) (by rw [natI_len, List.length_append, List.length_take]; have := HBD.out; have := HKK.out; omega) (by rw [World.size_alloc]; have := HKW.out.low.size; omega) ?_; intro v' w3 hq3 hg3 ho3; obtain ⟨HK3, HX3⟩ := (HKW.out.still (ext_alloc (ext_refl _) _)).pushed hq3 hg3 ho3 hn0; obtain ⟨sa, sn, sc, rfl⟩ := qrow_shape hq3; have HPK := hid (HKW.out.pushed_keeps hg3 hn0 (.slice sa sn sc)); have c3 := HX3.cell 0 (v := v) rfl; have f3 := HX3.free 0; have HK3 := hid HK3; clear hq3 hg3 ho3 HX3)
                  obtain ⟨g1, g2, g3⟩ := HPK.out
                  have z1 := g3 (w7.heap.size + 1) (attC L[i] (.slice a7 L[i].reads.length k7) (.slice a8 L[i].writes.length k8)) 27 (by decide) (by decide)
                  have z2 := g3 w7.heap.size #[.slice (some ⟨b, o, none⟩) L.length cap] 23 (by decide) (by decide)
                  exact ⟨g1.from _, ⟨⟨g2, g1.walks⟩, z1, z2⟩, ⟨_, by rw [HTK.out, ← List.append_assoc]; exact HK3.out, z1 HB12.out.1, z2 HB12.out.2⟩⟩
                case hdone =>
                  rintro D W hD ⟨v, hKW, hb1, hb2⟩ hK
                  rw [List.take_length] at hKW
                  have HKW := hid (hKW.marked hle8 hD hDlt hK)
                  have HM9 := hid HKW.out.meas
                  clear hKW hb1 hb2 hK
                  gi_wp2_with fail
                  refine ⟨⟨_, _, _, _, _, _, _, _, _, _, _, _, _, _, _, _, _, _, _, _, _, _, _, _, _, _, _, _, _, _, _, _, _, _, _, _, _, _, _, _, _, _, _, _, _, _, _, _, _, _, _, _, _, _, _, _, _, _, _, _, _, _, _, _, _, _, _, _, _, _, _, _, _, _, _, _, _, _, _, _, _, _, _, _, _, _, _, _, _, ⟨rfl, rfl, D :: Ds, todo ++ asked L L[i], insN out i, v, rfl, HKW, hid ⟨HTK.out, by rw [List.length_append]; exact HBD.out.2.1⟩⟩, rfl⟩, ?_⟩
                  have e1 := HM0.out
                  have e2 := HM9.out
                  show (L.length - lenV vo') * (askN L + 1) + lenC (W.cell? ⟨w.heap.size, 0, none⟩) < (L.length - lenV u12) * (askN L + 1) + lenC (wr2.cell? ⟨w.heap.size, 0, none⟩)
                  rw [e1.1, e1.2, e2.1, e2.2, List.length_cons, List.length_append]
                  exact take_meas (insN_len out i) HBD.out.1 HAN.out)
end Go.Proofs.YtnmbacleaijhmaaDoor
