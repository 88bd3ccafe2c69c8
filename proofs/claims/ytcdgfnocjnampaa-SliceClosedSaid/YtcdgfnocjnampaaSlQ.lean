/-
  A queue of numbers: a slice of the call's own that may begin within its block; one number more at its end, one fewer at its head. Said of any program.
-/
import Derived.Test.YtcdgfnocjnampaaSlR
import Derived.ArgAppend
import Derived.OwnWalkIn
import Derived.Laws.OwnMore
import Derived.RangeFuncSeq
import Derived.RangeFuncKeeps
namespace Go.Proofs.Ytcdgfnocjnampaa
set_option linter.unusedVariables false
set_option linter.unusedSimpArgs false
set_option linter.unusedVariables false
open Go Go.RowKit
def QRow (e : TypeId) (n₀ : Nat) (W : World) (v : Value) (xs : List Int) : Prop :=
  (v = .slice none 0 0 ∧ xs = []) ∨ ∃ g off cap cur, v = .slice (some ⟨g, off, none⟩) xs.length cap ∧ n₀ ≤ g ∧ W.heap[g]? = some (.cells cur e (0, 0)) ∧ xs.length ≤ cap ∧ off + cap ≤ cur.size ∧ cap ≤ maxLen ∧ ∀ j (h : j < xs.length), cur[off + j]? = some (.int .i64 xs[j])
theorem own_mono {w : World} {base base' : Nat} {e : TypeId} {size : Nat} {v : Value} {n : Nat} {xs : List Value} (h : w.ownsRow base e size v n xs) (hb : base' ≤ base) : w.ownsRow base' e size v n xs :=
  ⟨h.1, h.2.imp id fun ⟨g, cap, cur, h1, h2, h3⟩ => ⟨g, cap, cur, h1, Nat.le_trans hb h2, h3⟩⟩
theorem QRow.nil (e : TypeId) (n₀ : Nat) (W : World) : QRow e n₀ W (.slice none 0 0) [] := .inl ⟨rfl, rfl⟩
theorem QRow.of_own {e n₀ : Nat} {W : World} {v : Value} {xs : List Int} (h : W.ownsRow n₀ e 1 v xs.length (xs.map (.int .i64))) : QRow e n₀ W v xs := by
  rcases h.2 with ⟨rfl, h0⟩ | ⟨g, cap, cur, rfl, hb, hg, h1, h2, h3, h4⟩
  · exact .inl ⟨rfl, List.eq_nil_of_length_eq_zero h0⟩
  · refine .inr ⟨g, 0, cap, cur, rfl, hb, hg, h1, by omega, h2, fun j hj => ?_⟩
    have : (xs.map (Value.int .i64))[j]? = some (.int .i64 xs[j]) := by rw [List.getElem?_map, List.getElem?_eq_getElem hj]; rfl
    rw [← h4, List.getElem?_take, if_pos (by omega), Array.getElem?_toList] at this
    rw [Nat.zero_add]; exact this
theorem QRow.shape {e n₀ : Nat} {W : World} {v : Value} {xs : List Int} (h : QRow e n₀ W v xs) : ∃ a cap, v = .slice a xs.length cap := by
  rcases h with ⟨rfl, rfl⟩ | ⟨g, off, cap, cur, rfl, _⟩
  · exact ⟨none, 0, rfl⟩
  · exact ⟨_, _, rfl⟩
theorem QRow.lt {e n₀ : Nat} {W : World} {v : Value} {xs : List Int} (h : QRow e n₀ W v xs) : ∀ g, v.ownBlock = some g → n₀ ≤ g ∧ g < W.heap.size ∧ ∃ cur, W.heap[g]? = some (.cells cur e (0, 0)) := by
  intro g hg
  rcases h with ⟨rfl, _⟩ | ⟨g', off, cap, cur, rfl, hb, hh, _⟩
  · simp [Value.ownBlock] at hg
  · obtain rfl : g' = g := by simpa [Value.ownBlock] using hg
    exact ⟨hb, (Array.getElem?_eq_some_iff.1 hh).1, cur, hh⟩
theorem QRow.kept {e n₀ : Nat} {W W' : World} {v : Value} {xs : List Int} {row : Option Nat} (h : QRow e n₀ W v xs) (hg : W.grownBy W' row) (hne : v.ownBlock = none ∨ v.ownBlock ≠ row) : QRow e n₀ W' v xs := by
  rcases h with h | ⟨g, off, cap, cur, rfl, hb, hh, rest⟩
  · exact .inl h
  · refine .inr ⟨g, off, cap, cur, rfl, hb, ?_, rest⟩
    rw [hg.block g (Array.getElem?_eq_some_iff.1 hh).1 (by simpa [Value.ownBlock] using hne)]
    exact hh
theorem QRow.calm {e n₀ : Nat} {W W' : World} {v : Value} {xs : List Int} (h : QRow e n₀ W v xs) (hg : W.grownBy W' none) : QRow e n₀ W' v xs := h.kept hg (by cases v.ownBlock <;> simp)
theorem QRow.below {e n₀ : Nat} {W W' : World} {v : Value} {xs : List Int} (h : QRow e n₀ W v xs) (hb : Below W.heap.size W W') : QRow e n₀ W' v xs := h.calm ⟨hb.os, hb.tape, hb.output, hb.size, fun k hk _ => hb.block k hk⟩
theorem QRow.alloc {e n₀ : Nat} {W : World} {v : Value} {xs : List Int} (h : QRow e n₀ W v xs) (o : Obj) : QRow e n₀ (W.alloc o) v xs := h.calm (World.grownBy_alloc _ _ _)
theorem QRow.drew {e n₀ : Nat} {W : World} {v : Value} {xs : List Int} (h : QRow e n₀ W v xs) : QRow e n₀ W.drew v xs := h
/-- A block of another type is turned. -/
theorem QRow.other {e n₀ : Nat} {W : World} {v : Value} {xs : List Int} (h : QRow e n₀ W v xs) {b o : Nat} {cs : Array Value} {t : TypeId} (hb : Blk W b cs t) (ht : t ≠ e) (u : Value) : QRow e n₀ (W.setCell ⟨b, o, none⟩ u) v xs := by
  refine h.kept (row := some b) ⟨rfl, rfl, rfl, by simp [World.setCell], fun k _ hk => Below.heap_setCell _ _ _ k (fun e => hk (by rw [e]))⟩ (.inr fun hv => ?_)
  obtain ⟨_, _, cur, hc⟩ := h.lt b hv
  unfold Blk at hb
  rw [hb] at hc
  cases hc
  exact ht rfl
theorem QRow.ne {e n₀ : Nat} {W : World} {v : Value} {xs : List Int} (h : QRow e n₀ W v xs) {b : Nat} {cs : Array Value} {t : TypeId} (hb : Blk W b cs t) (ht : t ≠ e) : some b ≠ v.ownBlock := by
  intro hv
  obtain ⟨_, _, cur, hc⟩ := h.lt b hv.symm
  unfold Blk at hb
  rw [hb] at hc
  cases hc
  exact ht rfl
theorem QRow.noCells {e n₀ : Nat} {W W' : World} {v : Value} {xs : List Int} (h : QRow e n₀ W v xs) {row : Option Nat} (hg : W.grownBy W' row) (hr : ∀ r, row = some r → ∃ o : Obj, W.heap[r]? = some o ∧ o.isCells = false) : QRow e n₀ W' v xs := by
  refine h.kept hg ?_
  rcases hv : v.ownBlock with _ | g
  · exact .inl rfl
  · refine .inr fun e' => ?_
    obtain ⟨_, _, cur, hc⟩ := h.lt g hv
    obtain ⟨o, ho, h1⟩ := hr g e'.symm
    rw [hc] at ho; cases ho; cases h1
theorem Blk.noCells {W W' : World} {b : Nat} {cs : Array Value} {t : TypeId} (h : Blk W b cs t) {row : Option Nat} (hg : W.grownBy W' row) (hr : ∀ r, row = some r → ∃ o : Obj, W.heap[r]? = some o ∧ o.isCells = false) : Blk W' b cs t := by
  unfold Blk at h ⊢
  rw [hg.block b (Array.getElem?_eq_some_iff.1 h).1 (fun e => by obtain ⟨o, ho, h1⟩ := hr b e.symm; rw [h] at ho; cases ho; cases h1)]
  exact h
theorem Blk.grew {W W' : World} {b : Nat} {cs : Array Value} {t : TypeId} {row : Option Nat} (h : Blk W b cs t) (hg : W.grownBy W' row) (hne : some b ≠ row) : Blk W' b cs t := by
  unfold Blk at h ⊢
  rw [hg.block b (Array.getElem?_eq_some_iff.1 h).1 hne]; exact h
/-- The head. -/
theorem QRow.head {e n₀ : Nat} {W : World} {v : Value} {x : Int} {xs : List Int} (h : QRow e n₀ W v (x :: xs)) : ∃ g off cap, v = .slice (some ⟨g, off, none⟩) (xs.length + 1) cap ∧ 1 ≤ cap ∧ xs.length + 1 ≤ cap ∧ cap ≤ maxLen ∧ W.cell? ⟨g, off, none⟩ = some (.int .i64 x) ∧
    QRow e n₀ W (.slice (if cap = 1 then some ⟨g, off, none⟩ else some ⟨g, off + 1, none⟩) xs.length (cap - 1)) xs := by
  rcases h with ⟨_, h⟩ | ⟨g, off, cap, cur, rfl, hb, hh, h1, h2, h3, h4⟩
  · cases h
  · simp only [List.length_cons] at h1 h4 ⊢
    refine ⟨g, off, cap, rfl, by omega, h1, h3, ?_, ?_⟩
    · have := h4 0 (by omega)
      simp only [Nat.add_zero, List.getElem_cons_zero] at this
      simp [World.cell?, hh, this]
    · by_cases hc : cap = 1
      · subst hc
        obtain rfl : xs = [] := List.eq_nil_of_length_eq_zero (by omega)
        exact .inr ⟨g, off, 0, cur, by rw [if_pos rfl], hb, hh, Nat.le_refl _, by omega, by omega, fun j hj => absurd hj (Nat.not_lt_zero _)⟩
      · refine .inr ⟨g, off + 1, cap - 1, cur, by rw [if_neg hc], hb, hh, by omega, by omega, by omega, fun j hj => ?_⟩
        have := h4 (j + 1) (by omega)
        rw [List.getElem_cons_succ] at this
        rw [show off + 1 + j = off + (j + 1) by omega]; exact this
section
variable {P : Program}
/-- One number more. -/
theorem run_append_q (w : World) (n₀ : Nat) (t ty e : TypeId) (i : TypeInfo) (ht : P.underlying t = some (.slice e)) (hi : P.info? e = some i) (hz : i.zero = some (.int .i64 0)) (hsize : i.size = 1) (hby : i.bytes = 8)
    (v : Value) (xs : List Int) (h : QRow e n₀ w v xs) (ad : Addr) (c : Nat) (x : Int) (hx : w.cell? ad = some (.int .i64 x)) (h48 : xs.length + 1 ≤ 17592186044415) (hn : n₀ ≤ w.heap.size) :
    ∃ v' w', (Builtin.append_ #[t, t] ty #[v, .slice (some ad) 1 c]).run P w = .ok v' w' ∧ QRow e n₀ w' v' (xs ++ [x]) ∧ w.grownBy w' v.ownBlock ∧ (v'.ownBlock = v.ownBlock ∨ ∃ q, v'.ownBlock = some q ∧ w.heap.size ≤ q) := by
  have hnews : ∀ j u, [Value.int .i64 x][j]? = some u → w.cell? (ad.add j) = some u := by
    intro j u hu
    rcases j with _ | j
    · simp at hu; subst hu; simpa [Addr.add] using hx
    · simp at hu
  have hz1 : (Value.int .i64 0).cells.size = 1 := rfl
  have hmap : (xs ++ [x]).map (Value.int .i64) = xs.map (Value.int .i64) ++ [Value.int .i64 x] := by rw [List.map_append]; rfl
  have hml : ∀ n : Nat, n ≤ 17592186044415 → n ≤ maxLen := fun n hn => by unfold maxLen; omega
  rcases h with ⟨rfl, rfl⟩ | ⟨g, off, cap, cur, rfl, hb, hh, h1, h2, h3, h4⟩
  · obtain ⟨v', w', hrun, r1, r2, r3⟩ := run_append_own (P := P) w w.heap.size t ty e i (.int .i64 0) 1 8 ht hi hz hsize hby hz1 (by decide) (.slice none 0 0) 0 [] (World.ownsRow_nil w _ e 1) ad 1 c [.int .i64 x] rfl hnews (by simp [Value.oneCell']) (by unfold maxLen; omega) (by omega) (Nat.le_refl _)
    refine ⟨v', w', hrun, QRow.of_own (by simpa using own_mono r1 hn), r2, .inr ?_⟩
    rcases r1.2 with ⟨_, h0⟩ | ⟨g, cap, cur, rfl, hb, _⟩
    · omega
    · exact ⟨g, rfl, hb⟩
  · have hcell : ∀ j, j < xs.length → w.cell? ⟨g, off + j, none⟩ = some (.int .i64 xs[j]!) := fun j hj => by
      simp [World.cell?, hh, h4 j hj, hj]
    by_cases hr : xs.length + 1 ≤ cap
    · have hlt : off + xs.length < cur.size := by omega
      have hrun := run_append_room_cells (P := P) w t ty e i ht hi g off xs.length cap ad 1 c [.int .i64 x] (by rw [hsize]; rfl) hnews (by simp [Value.oneCell']) hr
        (fun j hj => by
          have : j = 0 := by simpa using hj
          subst this
          rw [hsize]
          simp [World.cell?, hh, Array.getElem?_eq_getElem hlt])
        (fun j hj => by simp [World.frozen?, hh])
      rw [hsize, Nat.mul_one] at hrun
      refine ⟨_, _, hrun, .inr ⟨g, off, cap, cur.setIfInBounds (off + xs.length) (.int .i64 x), by simp, hb, ?_, by simpa using hr, by simpa using h2, h3, fun j hj => ?_⟩, ⟨rfl, rfl, rfl, by simp [World.setCells, World.setCell], fun k _ hk => ?_⟩, .inl rfl⟩
      · simp [World.setCells, World.setCell, Array.getElem?_modify, hh]
      · have hj' : j < xs.length + 1 := by simpa using hj
        by_cases he : j = xs.length
        · subst he
          rw [Array.getElem?_setIfInBounds, if_pos rfl, if_pos hlt]
          simp
        · rw [Array.getElem?_setIfInBounds, if_neg (by omega), h4 j (by omega), List.getElem_append_left (by omega)]
      · show (w.setCell ⟨g, off + xs.length, none⟩ _).heap[k]? = _
        exact Below.heap_setCell _ _ _ k (fun e => hk (by rw [e]; rfl))
    · obtain ⟨v', w', hrun, r1, r2⟩ := run_append_arg_grows (P := P) w t ty e i (.int .i64 0) 1 8 ht hi hz hsize hby hz1 (by decide) ⟨g, off, none⟩ xs.length cap (xs.map (.int .i64)) (by simp)
        (fun j u hu => by
          rw [Addr.add_lit]
          rw [List.getElem?_map] at hu
          obtain ⟨y, hy, rfl⟩ := Option.map_eq_some_iff.1 hu
          obtain ⟨hj, rfl⟩ := List.getElem?_eq_some_iff.1 hy
          simp [World.cell?, hh, h4 j hj]) ad 1 c [.int .i64 x] rfl hnews (by omega) (hml _ h48) (by omega)
      refine ⟨v', w', hrun, QRow.of_own (by rw [hmap, List.length_append]; exact own_mono r1 hn), ⟨r2.os, r2.tape, r2.output, r2.size, fun k hk _ => r2.block k hk (by simp)⟩, .inr ?_⟩
      rcases r1.2 with ⟨_, h0⟩ | ⟨g', cap', cur', rfl, hb', _⟩
      · omega
      · exact ⟨g', rfl, hb'⟩
theorem wpList_append_q (w : World) {ops : Array Oper} {rest : List Oper} {o : Oper} {a : Act} {Q : Exit → Act → World → Prop} (hgd : o.guard = none) (s x : Operand) (t : TypeId)
    (ho : o.op = .call { callee := .builtin .append, args := #[s, x], argTypes := #[t, t] }) (n₀ : Nat) (e : TypeId) (i : TypeInfo) (ht : P.underlying t = some (.slice e)) (hi : P.info? e = some i) (hz : i.zero = some (.int .i64 0)) (hsize : i.size = 1) (hby : i.bytes = 8)
    (v : Value) (xs : List Int) (hs : a.eval s = v) (h : QRow e n₀ w v xs) (ad : Addr) (c : Nat) (y : Int) (hx : a.eval x = .slice (some ad) 1 c) (hy : w.cell? ad = some (.int .i64 y)) (h48 : xs.length + 1 ≤ 17592186044415) (hn : n₀ ≤ w.heap.size)
    (hK : ∀ v' w', QRow e n₀ w' v' (xs ++ [y]) → w.grownBy w' v.ownBlock → (v'.ownBlock = v.ownBlock ∨ ∃ q, v'.ownBlock = some q ∧ w.heap.size ≤ q) → wpList P ops Q rest (a.put o.dst v') w') : wpList P ops Q (o :: rest) a w := by
  refine wpList_plain hgd fun K hK' => ?_
  obtain ⟨v', w', hrun, r1, r2, r3⟩ := run_append_q (P := P) w n₀ t o.type e i ht hi hz hsize hby v xs h ad c y hy h48 hn
  unfold Oper.wp
  simp [execOp, ho, resolve, invoke, builtin, hs, hx, hrun, Result.andThen]
  exact hK' _ _ (hK v' w' r1 r2 r3)
theorem wpListIn_append_q {F : Fence} {n : Nat} (w : World) {ops : Array Oper} {rest : List Oper} {o : Oper} {a : Act} {Q : Exit → Act → World → Prop} (hgd : o.guard = none) (s x : Operand) (t : TypeId)
    (ho : o.op = .call { callee := .builtin .append, args := #[s, x], argTypes := #[t, t] }) (n₀ : Nat) (e : TypeId) (i : TypeInfo) (ht : P.underlying t = some (.slice e)) (hi : P.info? e = some i) (hz : i.zero = some (.int .i64 0)) (hsize : i.size = 1) (hby : i.bytes = 8)
    (v : Value) (xs : List Int) (hs : a.eval s = v) (h : QRow e n₀ w v xs) (ad : Addr) (c : Nat) (y : Int) (hx : a.eval x = .slice (some ad) 1 c) (hy : w.cell? ad = some (.int .i64 y)) (h48 : xs.length + 1 ≤ 17592186044415) (hn : n₀ ≤ w.heap.size)
    (hK : ∀ v' w', QRow e n₀ w' v' (xs ++ [y]) → w.grownBy w' v.ownBlock → (v'.ownBlock = v.ownBlock ∨ ∃ q, v'.ownBlock = some q ∧ w.heap.size ≤ q) → wpListIn F n P ops Q rest (a.put o.dst v') w') : wpListIn F n P ops Q (o :: rest) a w := by
  refine wpListIn_plain hgd fun K hK' => ?_
  obtain ⟨v', w', hrun, r1, r2, r3⟩ := run_append_q (P := P) w n₀ t o.type e i ht hi hz hsize hby v xs h ad c y hy h48 hn
  unfold Oper.wpIn
  refine ⟨?_, ?_⟩
  · simp [Oper.about, ho, resolve, Target.leads, Sem.run_pure]
  · rw [Oper.semAt_plain F _ _ (by rw [ho]; intro c hc'; cases hc')]
    simp [execOp, ho, resolve, invoke, builtin, hs, hx, hrun, Result.andThen]
    exact hK' _ _ (hK v' w' r1 r2 r3)
end
end Go.Proofs.Ytcdgfnocjnampaa
