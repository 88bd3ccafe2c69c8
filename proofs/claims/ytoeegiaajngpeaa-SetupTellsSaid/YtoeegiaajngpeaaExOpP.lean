/-
  What comes in: an argument of type api.Expr, or a slice of 64-bit ints, that reads as data reads by our own predicates.
-/
import Derived.Test.YtoeegiaajngpeaaProg
import Derived.Test.YtoeegiaajngpeaaExD
import Derived.ProofKit
import Derived.OpenShut
namespace Go.Proofs.Ytoeegiaajngpeaa
set_option linter.unusedVariables false
set_option maxRecDepth 100000
open Go Go.RowKit Go.ChangeShapes Go.WideShapes Go.ChangeAt

theorem cellsExpr : Try.prog.cellsOf 40 = 3 := by kernel_rfl
theorem cellsU8 : Try.prog.cellsOf 5 = 1 := by kernel_rfl
theorem cellsI64 : Try.prog.cellsOf 2 = 1 := by kernel_rfl
theorem cellsExprs : Try.prog.cellsOf 38 = 1 := by kernel_rfl

/-- A slice that reads: its elements read, one by one. -/
theorem rd_slice {H : Type} {enc : TypeId × Value → H} {P : Program} {w : World} {base : Nat} {sp : Nat → Bool} {held : Bool} {fuel : Nat} {t e : TypeId} {cs : List Value} {x : DataW H × List MemPlace}
    (ht : P.underlying t = some (.slice e)) (h : DataW.trod enc P w base sp held fuel t cs = some x) :
    ∃ a len cap n, fuel = n + 1 ∧ cs = [.slice a len cap] ∧ len ≤ 9223372036854775807 ∧ (0 < len → ∃ ad, a = some ad ∧
      ∀ i, i < len → ∃ cs' y, w.cells? base (ad.add (i * P.cellsOf e)) (P.cellsOf e) = some cs' ∧ DataW.trod enc P w base sp held n e cs' = some y) := by
  rcases DataW.trod_slice ht h with ⟨rfl, rfl⟩ | ⟨a, len, cap, elems, rest, n, rfl, rfl, rfl, hb, hl, hm, hlen, hel, hsp, hns⟩
  · cases fuel with
    | zero => simp [DataW.trod] at h
    | succ n => exact ⟨none, 0, 0, n, rfl, rfl, by omega, by omega⟩
  · refine ⟨some a, len, cap, n, rfl, rfl, by unfold maxLen at hm; omega, fun _ => ⟨a, rfl, fun i hi => ?_⟩⟩
    have h1 := hel i hi
    rw [List.getElem?_eq_getElem (by omega)] at h1
    obtain ⟨cs', h2, h3⟩ := Option.bind_eq_some_iff.1 h1
    exact ⟨cs', _, h2, h3⟩
theorem RdExs.of_get {w : World} {b : Nat} : ∀ (l : List Ex) {off : Nat}, (∀ k (h : k < l.length), ∃ v0 v1 v2,
    w.cell? ⟨b, off + k * 3, none⟩ = some v0 ∧ w.cell? ⟨b, off + k * 3 + 1, none⟩ = some v1 ∧ w.cell? ⟨b, off + k * 3 + 2, none⟩ = some v2 ∧ RdEx w l[k] v0 v1 v2) → RdExs w b off l
  | [], _, _ => by unfold RdExs; trivial
  | x :: xs, off, h => by
    unfold RdExs
    refine ⟨?_, RdExs.of_get xs fun k hk => ?_⟩
    · obtain ⟨v0, v1, v2, h0, h1, h2, h3⟩ := h 0 (by simp)
      simp only [Nat.zero_mul, Nat.add_zero] at h0 h1 h2
      exact ⟨v0, v1, v2, h0, h1, h2, h3⟩
    obtain ⟨v0, v1, v2, h0, h1, h2, h3⟩ := h (k + 1) (by simpa using hk)
    have e : off + (k + 1) * 3 = off + 3 + k * 3 := by omega
    rw [e] at h0 h1 h2
    exact ⟨v0, v1, v2, h0, h1, h2, by simpa using h3⟩
/-- So many cells, one by one. -/
theorem cells_each {w : World} {base : Nat} {a : Addr} {n : Nat} {cs : List Value} (h : w.cells? base a n = some cs) : cs.length = n ∧ ∀ i (hi : i < n) (hc : i < cs.length), w.cell? ⟨a.block, a.off + i, none⟩ = some cs[i] := by
  obtain ⟨_, h1, h2⟩ := World.cells?_some h
  refine ⟨h1, fun i hi hc => ?_⟩
  have h3 := h2 i hi
  rw [List.getElem?_eq_getElem hc] at h3
  have h4 := World.cell?_spot h3
  have : a.add i = ⟨a.block, a.off + i, none⟩ := by
    obtain ⟨b, o, s⟩ := a
    by_cases h0 : i = 0
    · subst h0; simp [Addr.add] at h4 ⊢; exact h4
    · simp [Addr.add, h0]
  rw [← this]; exact h3
/-- A value of type api.Expr that reads as data is an expression. -/
theorem rdEx_of_trod {H : Type} {enc : TypeId × Value → H} {w : World} {sp : Nat → Bool} {held : Bool} : ∀ (fuel : Nat) (cs : List Value) (x : DataW H × List MemPlace),
    DataW.trod enc Try.prog w 0 sp held fuel 40 cs = some x → ∃ e v0 v1 v2, cs = [v0, v1, v2] ∧ RdEx w e v0 v1 v2 := by
  intro fuel
  induction fuel using Nat.strongRecOn with
  | _ fuel ih =>
  intro cs x h
  obtain ⟨xs, n, rfl, -, hlen, hxs, hel⟩ := DataW.trod_struct Try.underlying40 h
  rw [cellsExpr] at hlen
  match cs, hlen with
  | [c0, c1, c2], _ =>
  match xs, hxs with
  | [x0, x1, x2], _ =>
  have h0 : DataW.trod enc Try.prog w 0 sp held n 5 (([c0, c1, c2].drop 0).take (Try.prog.cellsOf 5)) = some x0 := hel 0 _ rfl
  have h1 : DataW.trod enc Try.prog w 0 sp held n 2 (([c0, c1, c2].drop 1).take (Try.prog.cellsOf 2)) = some x1 := hel 1 _ rfl
  have h2 : DataW.trod enc Try.prog w 0 sp held n 38 (([c0, c1, c2].drop 2).take (Try.prog.cellsOf 38)) = some x2 := hel 2 _ rfl
  rw [cellsU8] at h0
  rw [cellsI64] at h1
  rw [cellsExprs] at h2
  simp only [List.drop_zero, List.drop_succ_cons, List.take_succ_cons, List.take_zero] at h0 h1 h2
  obtain ⟨op, e0, -, w0⟩ := DataW.trod_int Try.underlying5 h0
  obtain ⟨m, e1, -, w1⟩ := DataW.trod_int Try.underlying2 h1
  obtain ⟨a, len, cap, n', rfl, e2, hl, hx⟩ := rd_slice Try.underlying38 h2
  simp only [List.cons.injEq, and_true] at e0 e1 e2
  subst e0; subst e1; subst e2
  have b0 : 0 ≤ op ∧ op ≤ 255 := by simpa [Lit.wf, IntKind.min, IntKind.max, IntKind.signed, IntKind.bits] using w0
  have b1 : -9223372036854775808 ≤ m ∧ m ≤ 9223372036854775807 := by simpa [Lit.wf, IntKind.min, IntKind.max, IntKind.signed, IntKind.bits] using w1
  have hchoose : ∀ i : Fin len, ∃ ex v0 v1 v2, (∃ ad, a = some ad ∧ w.cells? 0 (ad.add (i.1 * 3)) 3 = some [v0, v1, v2]) ∧ RdEx w ex v0 v1 v2 := by
    intro i
    obtain ⟨ad, ha, hall⟩ := hx (by have := i.2; omega)
    obtain ⟨cs', y, hc, hy⟩ := hall i.1 i.2
    rw [cellsExpr] at hc
    obtain ⟨ex, v0, v1, v2, rfl, hr⟩ := ih n' (by omega) cs' y hy
    exact ⟨ex, v0, v1, v2, ⟨ad, ha, hc⟩, hr⟩
  refine ⟨.mk op m (List.ofFn fun i => Classical.choose (hchoose i)), _, _, _, rfl, ?_⟩
  unfold RdEx
  refine ⟨rfl, rfl, b0, b1, a, cap, by simp, by simpa using hl, fun hne => ?_⟩
  have hpos : 0 < len := by
    rcases Nat.eq_zero_or_pos len with h | h
    · subst h; simp at hne
    · exact h
  obtain ⟨ad, ha, -⟩ := hx hpos
  have had : ad = ⟨ad.block, ad.off, none⟩ := by
    obtain ⟨v0, v1, v2, ⟨ad', ha', hc⟩, -⟩ := Classical.choose_spec (hchoose ⟨0, hpos⟩)
    rw [ha] at ha'
    obtain rfl := Option.some.inj ha'
    obtain ⟨-, -, h3⟩ := World.cells?_some hc
    have h4 := World.cell?_spot (h3 0 (by omega))
    obtain ⟨b, o, s⟩ := ad
    simp [Addr.add] at h4 ⊢
    exact h4
  refine ⟨ad.block, ad.off, by rw [ha]; exact congrArg some had, RdExs.of_get _ fun k hk => ?_⟩
  simp only [List.length_ofFn] at hk
  obtain ⟨v0, v1, v2, ⟨ad', ha', hc⟩, hr⟩ := Classical.choose_spec (hchoose ⟨k, hk⟩)
  rw [ha] at ha'
  obtain rfl := Option.some.inj ha'
  obtain ⟨-, hcell⟩ := cells_each hc
  have hb : (ad.add (k * 3)).block = ad.block ∧ (ad.add (k * 3)).off = ad.off + k * 3 := by
    unfold Addr.add; split
    · rename_i h; simp [h]
    · exact ⟨rfl, rfl⟩
  refine ⟨v0, v1, v2, ?_, ?_, ?_, by simpa using hr⟩
  · have := hcell 0 (by omega) (by simp)
    rw [hb.1, hb.2] at this
    simpa using this
  · have := hcell 1 (by omega) (by simp)
    rw [hb.1, hb.2] at this
    simpa using this
  · have := hcell 2 (by omega) (by simp)
    rw [hb.1, hb.2] at this
    simpa using this

/-- A slice of ints of 64 bits that reads as data is a list. -/
theorem rdInts_of_trod {H : Type} {enc : TypeId × Value → H} {w : World} {sp : Nat → Bool} {held : Bool} {fuel : Nat} {v : Value} {x : DataW H × List MemPlace}
    (h : DataW.trod enc Try.prog w 0 sp held fuel 22 [v] = some x) : ∃ l, RdInts w l v := by
  rcases open_ints Try.underlying22 Try.underlying2 cellsI64 h with ⟨hcs, hx⟩ | ⟨a, len, cap, zs, hcs, _, hl, hm, hz, hx, hcell, hwz⟩
  · simp only [List.cons.injEq, and_true] at hcs
    subst hcs
    exact ⟨[], none, 0, rfl, by simp, by simp, fun h => absurd rfl h⟩
  · simp only [List.cons.injEq, and_true] at hcs
    subst hcs
    have hlz : len ≤ zs.length := by rw [hz]; split <;> omega
    refine ⟨zs.take len, some a, cap, by simp [Nat.min_eq_left hlz], by simp; unfold maxLen at hm; omega, fun y hy => ?_, fun hne => ?_⟩
    · have := hwz y (List.mem_of_mem_take hy)
      simpa [Lit.wf, IntKind.min, IntKind.max, IntKind.signed, IntKind.bits] using this
    · have hpos : 0 < len := by
        rcases Nat.eq_zero_or_pos len with h | h
        · subst h; simp at hne
        · exact h
      have h4 := World.cell?_spot (hcell 0 (by omega))
      obtain ⟨b, o, s⟩ := a
      have hs : s = none := by simpa [Addr.add] using h4
      subst hs
      refine ⟨b, o, rfl, fun k hk => ?_⟩
      have hk' : k < len := by simpa [Nat.min_eq_left hlz] using hk
      have h5 := hcell k (by omega)
      have e1 : (⟨b, o, none⟩ : Addr).add k = ⟨b, o + k, none⟩ := by
        unfold Addr.add; split
        · rename_i h; subst h; simp
        · rfl
      rw [e1] at h5
      rw [h5]
      simp [List.getD_eq_getElem?_getD, List.getElem?_eq_getElem (show k < zs.length by omega)]

theorem open_Ex {H : Type} {enc : TypeId × Value → H} {w : World} {r : Reach} {b0 : Nat} {sp : Nat → Bool} {held : Bool} {v : Value} {d : DataW H} {p : List MemPlace}
    (hv : Value.okWide Try.prog w r b0 40 v) (h : DataW.Trod enc Try.prog w 0 sp held 40 v d p) : ∃ e v0 v1 v2, v = .agg #[v0, v1, v2] ∧ RdEx w e v0 v1 v2 := by
  obtain ⟨cs, rfl, hsz⟩ := okWide_struct Try.underlying40 hv
  obtain ⟨fuel, hf⟩ := h
  obtain ⟨e, v0, v1, v2, h1, h2⟩ := rdEx_of_trod fuel _ _ hf
  have h3 : cs.toList = [v0, v1, v2] := h1
  exact ⟨e, v0, v1, v2, by rw [← Array.toArray_toList (xs := cs), h3], h2⟩
theorem open_Ints {H : Type} {enc : TypeId × Value → H} {w : World} {r : Reach} {b0 : Nat} {sp : Nat → Bool} {held : Bool} {v : Value} {d : DataW H} {p : List MemPlace}
    (hv : Value.okWide Try.prog w r b0 22 v) (h : DataW.Trod enc Try.prog w 0 sp held 22 v d p) : ∃ l, RdInts w l v := by
  obtain ⟨a, len, cap, rfl⟩ := okWide_slice Try.underlying22 hv
  obtain ⟨fuel, hf⟩ := h
  exact rdInts_of_trod hf
end Go.Proofs.Ytoeegiaajngpeaa
