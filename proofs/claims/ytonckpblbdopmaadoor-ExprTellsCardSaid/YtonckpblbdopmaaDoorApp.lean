/-
  append onto a slice of no capacity (append([]T{}, xs...)): what comes out lies in a new block, whatever the source. Of any program.
-/
import Derived.Test.YtonckpblbdopmaaDoorBase
import Derived.Maps.AppendAt
import Derived.OwnWalk
namespace Go.Proofs.YtonckpblbdopmaaDoor
set_option linter.unusedVariables false
open Go Go.RowKit
section
variable {P : Program} (w : World)

theorem run_append_cap0 (t ty e : TypeId) (i : TypeInfo) (size bytes : Nat) (ht : P.underlying t = some (.slice e)) (hi : P.info? e = some i) (hsize : i.size = size) (hby : i.bytes = bytes)
    (ad : Addr) (A : Option Addr) (m c : Nat) (hm : 0 < m) (hbytes : m * bytes ≤ 140737488355328) :
    (Builtin.append_ #[t, t] ty #[.slice (some ad) 0 0, .slice A m c]).run P w = (Builtin.append_ #[t, t] ty #[.slice none 0 0, .slice A m c]).run P w := by
  subst hsize; subst hby
  have h1 : ¬ m = 0 := by omega
  have h2 : ¬ (Builtin.nextslicecap m 0 * i.bytes > 281474976710656) := by
    have : Builtin.nextslicecap m 0 = m := by simp [Builtin.nextslicecap, hm]
    rw [this]; omega
  simp [Builtin.append_, run_underlying ht, sizeOf, typeInfo, hi, Builtin.lenOf, Builtin.firstCells, h1, h2, loadCells, loadCellsFrom]

theorem run_append_cap0_zero (t ty e : TypeId) (i : TypeInfo) (ht : P.underlying t = some (.slice e)) (hi : P.info? e = some i)
    (ad : Addr) (A : Option Addr) (c : Nat) : (Builtin.append_ #[t, t] ty #[.slice (some ad) 0 0, .slice A 0 c]).run P w = .ok (.slice (some ad) 0 0) w := by
  cases A <;> simp [Builtin.append_, run_underlying ht, sizeOf, typeInfo, hi, Builtin.lenOf, Builtin.firstCells, loadCells, loadCellsFrom, storeCells]

/-- What append onto an empty slice gives: new memory that holds what was appended. -/
theorem run_append_empty (t ty e : TypeId) (i : TypeInfo) (z : Value) (size bytes : Nat) (ht : P.underlying t = some (.slice e)) (hi : P.info? e = some i) (hz : i.zero = some z)
    (hsize : i.size = size) (hby : i.bytes = bytes) (hzs : z.cells.size = size) (hsz : 0 < size) (ad : Addr) (A : Option Addr) (m c : Nat) (news : List Value) (hl : news.length = m * size)
    (hnews : 0 < m → ∃ ad', A = some ad' ∧ ∀ j u, news[j]? = some u → w.cell? (ad'.add j) = some u) (h1 : ∀ u ∈ news, u.oneCell' = true) (h63 : m ≤ maxLen) (hbytes : m * bytes ≤ 140737488355328) :
    ∃ A' c' w', (Builtin.append_ #[t, t] ty #[.slice (some ad) 0 0, .slice A m c]).run P w = .ok (.slice (some A') m c') w' ∧ Below w.heap.size w w' ∧
      (0 < m → ∃ g cells, A' = ⟨g, 0, none⟩ ∧ w.heap.size ≤ g ∧ Blk w' g cells e ∧ m * size ≤ cells.size ∧ ∀ (j : Nat) (u : Value), news[j]? = some u → cells[j]? = some u) := by
  rcases Nat.eq_zero_or_pos m with hm | hm
  · subst hm
    exact ⟨ad, 0, w, run_append_cap0_zero w t ty e i ht hi ad A c, ext_refl _, fun h => absurd h (by omega)⟩
  · obtain ⟨ad', rfl, hc⟩ := hnews hm
    obtain ⟨v', w', hrun, hown, hg, hne, hlies⟩ := run_append_own_at (P := P) w w.heap.size t ty e i z size bytes ht hi hz hsize hby hzs hsz (.slice none 0 0) 0 [] (World.ownsRow_nil w _ _ _) ad' m c news hl hc h1 (by rw [Nat.zero_add]; exact h63) (by rw [Nat.zero_add]; exact hbytes) (Nat.le_refl _)
    rw [run_append_cap0 w t ty e i size bytes ht hi hsize hby ad (some ad') m c hm hbytes, hrun]
    obtain ⟨hlen, ⟨rfl, h0⟩ | ⟨g, cap, cur, rfl, hgb, hh, hn, hmx, hs, htk⟩⟩ := hown
    · omega
    · have hb : Below w.heap.size w w' := (Below.refl _ _).grown hg (Nat.le_refl _) (by simp [Value.ownBlock])
      rw [Nat.zero_add] at hn
      refine ⟨⟨g, 0, none⟩, cap, w', by rw [Nat.zero_add], hb, fun _ => ⟨g, cur, rfl, hgb, hh, by rw [hs]; exact Nat.mul_le_mul_right size hn, fun j u hu => ?_⟩⟩
      simp only [Nat.zero_add, List.nil_append] at htk
      rw [← htk, List.getElem?_take] at hu
      split at hu
      · simpa using hu
      · cases hu

theorem wp_append_empty {o : Oper} {a : Act} {K : Act → World → Prop} {Q : Exit → Act → World → Prop} (s x : Operand) (t : TypeId)
    (ho : o.op = .call { callee := .builtin .append, args := #[s, x], argTypes := #[t, t] })
    (e : TypeId) (i : TypeInfo) (z : Value) (size bytes : Nat) (ht : P.underlying t = some (.slice e)) (hi : P.info? e = some i) (hz : i.zero = some z)
    (hsize : i.size = size) (hby : i.bytes = bytes) (hzs : z.cells.size = size) (hsz : 0 < size)
    (ad : Addr) (hs : a.eval s = .slice (some ad) 0 0) (A : Option Addr) (m c : Nat) (news : List Value) (hx : a.eval x = .slice A m c) (hl : news.length = m * size)
    (hnews : 0 < m → ∃ ad', A = some ad' ∧ ∀ j u, news[j]? = some u → w.cell? (ad'.add j) = some u) (h1 : ∀ u ∈ news, u.oneCell' = true) (h63 : m ≤ maxLen) (hbytes : m * bytes ≤ 140737488355328)
    (h : ∀ A' c' w', Below w.heap.size w w' → (0 < m → ∃ g cells, A' = ⟨g, 0, none⟩ ∧ w.heap.size ≤ g ∧ Blk w' g cells e ∧ m * size ≤ cells.size ∧ ∀ (j : Nat) (u : Value), news[j]? = some u → cells[j]? = some u) →
      K (a.put o.dst (.slice (some A') m c')) w') : o.wp P a w K Q := by
  obtain ⟨A', c', w', hrun, h2, h3⟩ := run_append_empty (P := P) w t o.type e i z size bytes ht hi hz hsize hby hzs hsz ad A m c news hl hnews h1 h63 hbytes
  unfold Oper.wp execOp
  simp only [ho, resolve, invoke, builtin, Sem.run_bind, Sem.run_pure, Result.andThen_ok, List.map_toArray, List.map_cons, List.map_nil, hs, hx, hrun]
  exact h A' c' w' h2 h3

theorem wpList_append_empty {ops : Array Oper} {rest : List Oper} {o : Oper} {a : Act} {Q : Exit → Act → World → Prop} (hgd : o.guard = none) (s x : Operand) (t : TypeId)
    (ho : o.op = .call { callee := .builtin .append, args := #[s, x], argTypes := #[t, t] })
    (e : TypeId) (i : TypeInfo) (z : Value) (size bytes : Nat) (ht : P.underlying t = some (.slice e)) (hi : P.info? e = some i) (hz : i.zero = some z)
    (hsize : i.size = size) (hby : i.bytes = bytes) (hzs : z.cells.size = size) (hsz : 0 < size)
    (ad : Addr) (hs : a.eval s = .slice (some ad) 0 0) (A : Option Addr) (m c : Nat) (news : List Value) (hx : a.eval x = .slice A m c) (hl : news.length = m * size)
    (hnews : 0 < m → ∃ ad', A = some ad' ∧ ∀ j u, news[j]? = some u → w.cell? (ad'.add j) = some u) (h1 : ∀ u ∈ news, u.oneCell' = true) (h63 : m ≤ maxLen) (hbytes : m * bytes ≤ 140737488355328)
    (h : ∀ A' c' w', Below w.heap.size w w' → (0 < m → ∃ g cells, A' = ⟨g, 0, none⟩ ∧ w.heap.size ≤ g ∧ Blk w' g cells e ∧ m * size ≤ cells.size ∧ ∀ (j : Nat) (u : Value), news[j]? = some u → cells[j]? = some u) →
      wpList P ops Q rest (a.put o.dst (.slice (some A') m c')) w') : wpList P ops Q (o :: rest) a w :=
  wpList_plain hgd fun _ hK => wp_append_empty w s x t ho e i z size bytes ht hi hz hsize hby hzs hsz ad hs A m c news hx hl hnews h1 h63 hbytes fun A' c' w' h2 h3 => hK _ _ (h A' c' w' h2 h3)

theorem step_append_empty {ops : Array Oper} {o : Oper} {a : Act} {K : Act → World → Prop} {Q : Exit → Act → World → Prop} {E : Prop} (hgd : o.guard = none) (s x : Operand) (t : TypeId)
    (ho : o.op = .call { callee := .builtin .append, args := #[s, x], argTypes := #[t, t] })
    (e : TypeId) (i : TypeInfo) (z : Value) (size bytes : Nat) (ht : P.underlying t = some (.slice e)) (hi : P.info? e = some i) (hz : i.zero = some z)
    (hsize : i.size = size) (hby : i.bytes = bytes) (hzs : z.cells.size = size) (hsz : 0 < size)
    (ad : Addr) (hs : a.eval s = .slice (some ad) 0 0) (A : Option Addr) (m c : Nat) (news : List Value) (hx : a.eval x = .slice A m c) (hl : news.length = m * size)
    (hnews : 0 < m → ∃ ad', A = some ad' ∧ ∀ j u, news[j]? = some u → w.cell? (ad'.add j) = some u) (h1 : ∀ u ∈ news, u.oneCell' = true) (h63 : m ≤ maxLen) (hbytes : m * bytes ≤ 140737488355328)
    (h : ∀ A' c' w', Below w.heap.size w w' → (0 < m → ∃ g cells, A' = ⟨g, 0, none⟩ ∧ w.heap.size ≤ g ∧ Blk w' g cells e ∧ m * size ≤ cells.size ∧ ∀ (j : Nat) (u : Value), news[j]? = some u → cells[j]? = some u) →
      K (a.put o.dst (.slice (some A') m c')) w') :
    if Region.wanted o (yielded ops a.tmps) = true then Oper.wp P o a w K Q else E := by
  have hw : Region.wanted o (yielded ops a.tmps) = true := by simp [Region.wanted, hgd]
  rw [if_pos hw]
  exact wp_append_empty w s x t ho e i z size bytes ht hi hz hsize hby hzs hsz ad hs A m c news hx hl hnews h1 h63 hbytes h
end
end Go.Proofs.YtonckpblbdopmaaDoor
