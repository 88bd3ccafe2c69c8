/-
  A setup comes in, its first values too; append of such values onto an empty row of the call's own.
-/
import Derived.Test.YtoeegiaajngpeaaCpD
namespace Go.Proofs.Ytoeegiaajngpeaa
set_option linter.unusedVariables false
set_option linter.unusedSimpArgs false
set_option linter.unusedVariables false
set_option maxRecDepth 100000
open Go Go.RowKit Go.ChangeShapes Go.WideShapes Go.ChangeAt
theorem open_Su2 {H : Type} {enc : TypeId × Value → H} {w : World} {r : Reach} {b0 : Nat} {sp : Nat → Bool} {held : Bool} {v : Value} {d : DataW H} {p : List MemPlace}
    (hv : Value.okWide Try.prog w r b0 25 v) (h : DataW.Trod enc Try.prog w 0 sp held 25 v d p) : ∃ (st ck tr : Int) (is : List Int) (vi : Value) (ths : List (List (List St))) (u : Value), v = .agg #[.int .i64 st, .int .i64 ck, .int .i64 tr, vi, u] ∧
      (-9223372036854775808 ≤ st ∧ st ≤ 9223372036854775807) ∧ (-9223372036854775808 ≤ ck ∧ ck ≤ 9223372036854775807) ∧ (-9223372036854775808 ≤ tr ∧ tr ≤ 9223372036854775807) ∧ RdInts w is vi ∧ RdThs w ths u := by
  obtain ⟨cs, rfl, hsz⟩ := okWide_struct Try.underlying25 hv
  obtain ⟨fuel, h⟩ := h
  obtain ⟨cs⟩ := cs
  obtain ⟨xs, n, rfl, -, hlen, hxs, hel⟩ := DataW.trod_struct Try.underlying25 h
  rw [cellsSetup] at hlen
  match cs, hlen with
  | [c0, c1, c2, c3, c4], _ =>
  match xs, hxs with
  | [x0, x1, x2, x3, x4], _ =>
  have h0 : DataW.trod enc Try.prog w 0 sp held n 3 (([c0, c1, c2, c3, c4].drop 0).take (Try.prog.cellsOf 3)) = some x0 := hel 0 _ rfl
  have h1 : DataW.trod enc Try.prog w 0 sp held n 3 (([c0, c1, c2, c3, c4].drop 1).take (Try.prog.cellsOf 3)) = some x1 := hel 1 _ rfl
  have h2 : DataW.trod enc Try.prog w 0 sp held n 3 (([c0, c1, c2, c3, c4].drop 2).take (Try.prog.cellsOf 3)) = some x2 := hel 2 _ rfl
  have h3 : DataW.trod enc Try.prog w 0 sp held n 22 (([c0, c1, c2, c3, c4].drop 3).take (Try.prog.cellsOf 22)) = some x3 := hel 3 _ rfl
  have h4 : DataW.trod enc Try.prog w 0 sp held n 23 (([c0, c1, c2, c3, c4].drop 4).take (Try.prog.cellsOf 23)) = some x4 := hel 4 _ rfl
  rw [cellsInt] at h0 h1 h2
  rw [cellsI64s] at h3
  rw [cellsThs] at h4
  simp only [List.drop_zero, List.drop_succ_cons, List.take_succ_cons, List.take_zero] at h0 h1 h2 h3 h4
  obtain ⟨st, e0, -, w0⟩ := DataW.trod_int Try.underlying3 h0
  obtain ⟨ck, e1, -, w1⟩ := DataW.trod_int Try.underlying3 h1
  obtain ⟨tr, e2, -, w2⟩ := DataW.trod_int Try.underlying3 h2
  simp only [List.cons.injEq, and_true] at e0 e1 e2
  subst e0; subst e1; subst e2
  obtain ⟨pi, ni, ci, n', -, e3, -, -⟩ := rd_slice Try.underlying22 h3
  simp only [List.cons.injEq, and_true] at e3
  subst e3
  obtain ⟨is, his⟩ := rdInts_of_trod h3
  obtain ⟨ths, hth⟩ := rdThs_of_trod h4
  exact ⟨st, ck, tr, is, _, ths, c4, rfl, by simpa [Lit.wf, IntKind.min, IntKind.max, IntKind.signed, IntKind.bits] using w0, by simpa [Lit.wf, IntKind.min, IntKind.max, IntKind.signed, IntKind.bits] using w1, by simpa [Lit.wf, IntKind.min, IntKind.max, IntKind.signed, IntKind.bits] using w2, his, hth⟩
theorem infoI64 : (Try.prog.info? 2).map (fun i => (i.zero, i.size, i.bytes)) = some (some (.int .i64 0), 1, 8) := by kernel_rfl
theorem infoStmts : (Try.prog.info? 37).map (fun i => (i.zero, i.size, i.bytes)) = some (some (.slice none 0 0), 1, 24) := by kernel_rfl
theorem infoTh : (Try.prog.info? 32).map (fun i => (i.zero, i.size, i.bytes)) = some (some (.slice none 0 0), 1, 24) := by kernel_rfl
section
variable {w : World}
theorem run_append_none_cap (base : Nat) (t ty e : TypeId) (i : TypeInfo) (size c : Nat) (ht : Try.prog.underlying t = some (.slice e)) (hi : Try.prog.info? e = some i)
    (v : Value) (n : Nat) (xs : List Value) (hown : w.ownsRow base e size v n xs) :
    (Builtin.append_ #[t, t] ty #[v, .slice none 0 c]).run Try.prog w = .ok v w := by
  rcases hown.2 with ⟨rfl, rfl⟩ | ⟨g, cap, cur, rfl, _, _, hnc, _⟩
  · simp [Builtin.append_, run_underlying ht, sizeOf, typeInfo, hi, Builtin.lenOf, Builtin.firstCells]
  · simp [Builtin.append_, run_underlying ht, sizeOf, typeInfo, hi, Builtin.lenOf, Builtin.firstCells, hnc, storeCells]
/-- append([]int64{}, l...) -/
theorem run_append_ints {l : List Int} {vi : Value} {base g : Nat} {ty : TypeId} (hr : RdInts w l vi) (hl : l.length ≤ 1000000) (hown : w.ownsRow base 2 1 (.slice (some ⟨g, 0, none⟩) 0 0) 0 []) (hbase : base ≤ w.heap.size) :
    ∃ v' w', (Builtin.append_ #[22, 22] ty #[.slice (some ⟨g, 0, none⟩) 0 0, vi]).run Try.prog w = .ok v' w' ∧ w'.ownsRow base 2 1 v' l.length (l.map (Value.int .i64)) ∧ w.grownBy w' (some g) := by
  obtain ⟨i0, hi0, hz0, hz1, hz2⟩ := info_parts infoI64
  obtain ⟨a, cap, rfl, hlen, hrng, hx⟩ := hr
  cases a with
  | none =>
    have h0 : l = [] := by
      by_cases h : l = []
      · exact h
      · obtain ⟨b, off, h1, -⟩ := hx h; cases h1
    subst h0
    exact ⟨_, w, run_append_none_cap base _ _ _ i0 1 cap Try.underlying22 hi0 _ _ _ hown, hown, ⟨rfl, rfl, rfl, Nat.le_refl _, fun _ _ _ => rfl⟩⟩
  | some ad =>
    obtain ⟨v', w', h1, h2, h3, -, -⟩ := run_append_own_at (P := Try.prog) w base 22 ty 2 i0 _ 1 8 Try.underlying22 hi0 hz0 hz1 hz2 rfl (by decide) _ 0 [] hown ad l.length cap (l.map (Value.int .i64)) (by simp) (fun j u hu => by
      obtain ⟨hj, rfl⟩ := List.getElem?_eq_some_iff.1 hu
      simp only [List.length_map] at hj
      obtain ⟨b, off, h4, h5⟩ := hx (by intro h; subst h; simp at hj)
      obtain rfl := Option.some.inj h4
      have := h5 j hj
      rw [List.getElem_map]
      unfold Addr.add
      split
      · rename_i h; subst h; simpa using this
      · exact this) (by intro u hu; obtain ⟨x, -, rfl⟩ := List.mem_map.1 hu; rfl) (by unfold maxLen; omega) (by omega) hbase
    rw [Nat.zero_add] at h2
    exact ⟨v', w', h1, h2, h3⟩
end
/-- Own rows of numbers read so. -/
theorem ints_of_own {w w'' : World} {base : Nat} {v : Value} {l : List Int} {lo hi : Nat} (hr : ∀ x ∈ l, -9223372036854775808 ≤ x ∧ x ≤ 9223372036854775807) (h : w.ownsRow base 2 1 v l.length (l.map (Value.int .i64))) (hlo : lo ≤ base) (hhi : w.heap.size ≤ hi) (hag : Agree lo hi w w'') : RdInts w'' l v := by
  have hlt := h.lt
  obtain ⟨-, ⟨rfl, h0⟩ | ⟨g, cap, cur, rfl, hg, hh, hn, hm, hcs, htk⟩⟩ := h
  · have : l = [] := List.eq_nil_of_length_eq_zero h0
    subst this
    exact ⟨none, 0, rfl, by simp, hr, fun hne => absurd rfl hne⟩
  · refine ⟨_, cap, rfl, by unfold maxLen at hm; omega, hr, fun hne => ⟨g, 0, rfl, fun k hk => ?_⟩⟩
    have hgl := (hlt g rfl).2
    have hgb : Blk w g cur 2 := hh
    have hgb3 := hgb.agree hag (by omega) (by omega)
    rw [Nat.zero_add]
    refine hgb3.cell _ ?_
    have : (cur.toList.take (l.length * 1))[k]? = some (Value.int .i64 l[k]) := by rw [htk]; simp [hk]
    rw [List.getElem?_take] at this
    split at this
    · simpa using this
    · cases this
/-- A thread whose slice has the room that it says. -/
def RdThC (w : World) (l : List (List St)) (v : Value) : Prop := RdTh w l v ∧ ∃ p c, v = .slice p l.length c ∧ l.length ≤ c
theorem RdSl.mono {α : Type} {R R' : World → α → Value → Prop} {w : World} (hm : ∀ x v, R w x v → R' w x v) {l : List α} {v : Value} (h : RdSl R w l v) : RdSl R' w l v := by
  obtain ⟨p, c, h1, h2, h3⟩ := h
  refine ⟨p, c, h1, h2, fun hne => ?_⟩
  obtain ⟨q, off, h4, h5⟩ := h3 hne
  refine ⟨q, off, h4, RdRow.of_get _ fun k hk => ?_⟩
  obtain ⟨v, h6, h7⟩ := RdRow.get l h5 k hk
  exact ⟨v, h6, hm _ _ h7⟩
theorem ths_of_G {w : World} {l : List (List (List St))} {v : Value} (h : RdG (R1 RdThC) 1 w l v) : RdThs w l v := RdSl.mono (fun _ _ h => h.1) (RdSl.of_G h)
/-- What a setup's copier hands back. -/
def SCopyG (st ck tr : Int) (is : List Int) (ths : List (List (List St))) (w : World) (e : Ending) (w' : World) : Prop :=
  ∃ (vi : Value) (B : Nat) (v : Value) (news : List Value), e = .returned (.agg #[.int .i64 st, .int .i64 ck, .int .i64 tr, vi, v]) ∧ Below w.heap.size w w' ∧ w.heap.size ≤ B ∧
    RowG (R1 RdThC) 1 32 w' B ths ths.length v news ∧ (∀ w'', Agree w.heap.size B w' w'' → RdInts w'' is vi)
end Go.Proofs.Ytoeegiaajngpeaa
