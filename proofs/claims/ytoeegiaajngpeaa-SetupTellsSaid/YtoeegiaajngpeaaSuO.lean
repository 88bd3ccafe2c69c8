/-
  What comes in: an argument of type api.Setup that reads as data reads by our own predicates.
-/
import Derived.Test.YtoeegiaajngpeaaExOpP
import Derived.Test.YtoeegiaajngpeaaSuD
namespace Go.Proofs.Ytoeegiaajngpeaa
set_option linter.unusedVariables false
set_option linter.unusedSimpArgs false
set_option linter.unusedVariables false
set_option maxRecDepth 100000
open Go Go.RowKit Go.ChangeShapes Go.WideShapes Go.ChangeAt
theorem cellsStmt : Try.prog.cellsOf 42 = 10 := by kernel_rfl
theorem cellsInt : Try.prog.cellsOf 3 = 1 := by kernel_rfl
theorem cellsStmts : Try.prog.cellsOf 37 = 1 := by kernel_rfl
section
variable {H : Type} {enc : TypeId × Value → H} {w : World} {sp : Nat → Bool} {held : Bool}
/-- A slice whose elements read: a list. -/
theorem slice_list {α : Type} (R : α → List Value → Prop) {fuel : Nat} {t e : TypeId} {m : Nat} (hm : 0 < m) (hce : Try.prog.cellsOf e = m) (ht : Try.prog.underlying t = some (.slice e)) {v : Value} {x : DataW H × List MemPlace}
    (h : DataW.trod enc Try.prog w 0 sp held fuel t [v] = some x) (hread : ∀ n cs y, n < fuel → cs.length = m → DataW.trod enc Try.prog w 0 sp held n e cs = some y → ∃ z, R z cs) :
    ∃ (l : List α) (p : Option Addr) (cap : Nat), v = .slice p l.length cap ∧ l.length ≤ 9223372036854775807 ∧ (l ≠ [] → ∃ q off, p = some ⟨q, off, none⟩ ∧ ∀ k (hk : k < l.length), ∃ cs, R l[k] cs ∧ cs.length = m ∧ ∀ j (hj : j < cs.length), w.cell? ⟨q, off + k * m + j, none⟩ = some cs[j]) := by
  obtain ⟨a, len, cap, n', rfl, e2, hl, hx⟩ := rd_slice ht h
  simp only [List.cons.injEq, and_true] at e2
  subst e2
  have hchoose : ∀ i : Fin len, ∃ (z : α) (cs : List Value), (∃ ad, a = some ad ∧ w.cells? 0 (ad.add (i.1 * m)) m = some cs) ∧ R z cs := by
    intro i
    obtain ⟨ad, ha, hall⟩ := hx (by have := i.2; omega)
    obtain ⟨cs', y, hc, hy⟩ := hall i.1 i.2
    rw [hce] at hc
    obtain ⟨z, hz⟩ := hread n' cs' y (by omega) (cells_each hc).1 hy
    exact ⟨z, cs', ⟨ad, ha, hc⟩, hz⟩
  refine ⟨List.ofFn fun i => Classical.choose (hchoose i), a, cap, by simp, by simpa using hl, fun hne => ?_⟩
  have hpos : 0 < len := by
    rcases Nat.eq_zero_or_pos len with h | h
    · subst h; simp at hne
    · exact h
  obtain ⟨ad, ha, -⟩ := hx hpos
  have had : ad = ⟨ad.block, ad.off, none⟩ := by
    obtain ⟨cs, ⟨ad', ha', hc⟩, -⟩ := Classical.choose_spec (hchoose ⟨0, hpos⟩)
    rw [ha] at ha'
    obtain rfl := Option.some.inj ha'
    obtain ⟨-, hl5, h3⟩ := World.cells?_some hc
    have h3 := h3 0 hm
    rw [List.getElem?_eq_getElem (by rw [hl5]; exact hm)] at h3
    have h4 := World.cell?_spot h3
    obtain ⟨b, o, s⟩ := ad
    simp [Addr.add] at h4 ⊢
    exact h4
  refine ⟨ad.block, ad.off, by rw [ha]; exact congrArg some had, fun k hk => ?_⟩
  simp only [List.length_ofFn] at hk
  obtain ⟨cs, ⟨ad', ha', hc⟩, hr⟩ := Classical.choose_spec (hchoose ⟨k, hk⟩)
  rw [ha] at ha'
  obtain rfl := Option.some.inj ha'
  obtain ⟨hlc, hcell⟩ := cells_each hc
  have hb : (ad.add (k * m)).block = ad.block ∧ (ad.add (k * m)).off = ad.off + k * m := by
    unfold Addr.add; split
    · rename_i h; simp [h]
    · exact ⟨rfl, rfl⟩
  refine ⟨cs, by simpa using hr, hlc, fun j hj => ?_⟩
  have := hcell j (by omega) hj
  rw [hb.1, hb.2] at this
  exact this
theorem RdSts.of_get {b : Nat} : ∀ (l : List St) {off : Nat}, (∀ k (h : k < l.length), ∃ c0 c1 c2 c3 c4 c5 c6 c7 c8 c9, w.cell? ⟨b, off + k * 10, none⟩ = some c0 ∧ w.cell? ⟨b, off + k * 10 + 1, none⟩ = some c1 ∧ w.cell? ⟨b, off + k * 10 + 2, none⟩ = some c2 ∧ w.cell? ⟨b, off + k * 10 + 3, none⟩ = some c3 ∧ w.cell? ⟨b, off + k * 10 + 4, none⟩ = some c4 ∧
      w.cell? ⟨b, off + k * 10 + 5, none⟩ = some c5 ∧ w.cell? ⟨b, off + k * 10 + 6, none⟩ = some c6 ∧ w.cell? ⟨b, off + k * 10 + 7, none⟩ = some c7 ∧ w.cell? ⟨b, off + k * 10 + 8, none⟩ = some c8 ∧ w.cell? ⟨b, off + k * 10 + 9, none⟩ = some c9 ∧ RdSt w l[k] c0 c1 c2 c3 c4 c5 c6 c7 c8 c9) → RdSts w b off l
  | [], _, _ => by unfold RdSts; trivial
  | x :: xs, off, h => by
    unfold RdSts
    have h0 := h 0 (by simp)
    simp only [Nat.zero_mul, Nat.add_zero, List.getElem_cons_zero] at h0
    refine ⟨h0, RdSts.of_get xs fun k hk => ?_⟩
    have h1 := h (k + 1) (by simpa using hk)
    have e : off + (k + 1) * 10 = off + 10 + k * 10 := by omega
    rw [e] at h1
    simp only [List.getElem_cons_succ] at h1
    exact h1
theorem RdRow.of_get {α : Type} {R : World → α → Value → Prop} {b : Nat} : ∀ (l : List α) {off : Nat}, (∀ k (h : k < l.length), ∃ v, w.cell? ⟨b, off + k, none⟩ = some v ∧ R w l[k] v) → RdRow R w b off l
  | [], _, _ => by unfold RdRow; trivial
  | x :: xs, off, h => by
    unfold RdRow
    have h0 := h 0 (by simp)
    simp only [Nat.add_zero, List.getElem_cons_zero] at h0
    refine ⟨h0, RdRow.of_get xs fun k hk => ?_⟩
    have h1 := h (k + 1) (by simpa using hk)
    have e : off + (k + 1) = off + 1 + k := by omega
    rw [e] at h1
    simp only [List.getElem_cons_succ] at h1
    exact h1
theorem rdSl_of_trod {α : Type} (R : World → α → Value → Prop) {fuel : Nat} {t e : TypeId} (hce : Try.prog.cellsOf e = 1) (ht : Try.prog.underlying t = some (.slice e)) {v : Value} {x : DataW H × List MemPlace}
    (h : DataW.trod enc Try.prog w 0 sp held fuel t [v] = some x) (hread : ∀ n u y, n < fuel → DataW.trod enc Try.prog w 0 sp held n e [u] = some y → ∃ z, R w z u) : ∃ l, RdSl R w l v := by
  obtain ⟨l, p, cap, h1, h2, h3⟩ := slice_list (fun z cs => ∀ u, cs = [u] → R w z u) (by omega) hce ht h (fun n cs y hn hlc hy => by
    match cs, hlc with
    | [u], _ => obtain ⟨z, hz⟩ := hread n u y hn hy; exact ⟨z, fun u' e => by cases e; exact hz⟩)
  refine ⟨l, p, cap, h1, h2, fun hne => ?_⟩
  obtain ⟨q, off, h4, h5⟩ := h3 hne
  refine ⟨q, off, h4, RdRow.of_get l fun k hk => ?_⟩
  obtain ⟨cs, h6, h7, h8⟩ := h5 k hk
  match cs, h7, h6, h8 with
  | [u], _, h6, h8 => exact ⟨u, by simpa using h8 0 (by simp), h6 u rfl⟩
/-- A statement that reads as data. -/
theorem rdSt_of_trod : ∀ (fuel : Nat) (cs : List Value) (x : DataW H × List MemPlace), DataW.trod enc Try.prog w 0 sp held fuel 42 cs = some x →
    ∃ s k t a0 a1 a2 b0 b1 b2 bo el, cs = [k, t, a0, a1, a2, b0, b1, b2, bo, el] ∧ RdSt w s k t a0 a1 a2 b0 b1 b2 bo el := by
  intro fuel
  induction fuel using Nat.strongRecOn with
  | _ fuel ih =>
  intro cs x h
  obtain ⟨xs, n, rfl, -, hlen, hxs, hel⟩ := DataW.trod_struct Try.underlying42 h
  rw [cellsStmt] at hlen
  match cs, hlen with
  | [c0, c1, c2, c3, c4, c5, c6, c7, c8, c9], _ =>
  match xs, hxs with
  | [x0, x1, x2, x3, x4, x5], _ =>
  have h0 : DataW.trod enc Try.prog w 0 sp held n 5 (([c0, c1, c2, c3, c4, c5, c6, c7, c8, c9].drop 0).take (Try.prog.cellsOf 5)) = some x0 := hel 0 _ rfl
  have h1 : DataW.trod enc Try.prog w 0 sp held n 3 (([c0, c1, c2, c3, c4, c5, c6, c7, c8, c9].drop 1).take (Try.prog.cellsOf 3)) = some x1 := hel 1 _ rfl
  have h2 : DataW.trod enc Try.prog w 0 sp held n 40 (([c0, c1, c2, c3, c4, c5, c6, c7, c8, c9].drop 2).take (Try.prog.cellsOf 40)) = some x2 := hel 2 _ rfl
  have h3 : DataW.trod enc Try.prog w 0 sp held n 40 (([c0, c1, c2, c3, c4, c5, c6, c7, c8, c9].drop 5).take (Try.prog.cellsOf 40)) = some x3 := hel 3 _ rfl
  have h4 : DataW.trod enc Try.prog w 0 sp held n 37 (([c0, c1, c2, c3, c4, c5, c6, c7, c8, c9].drop 8).take (Try.prog.cellsOf 37)) = some x4 := hel 4 _ rfl
  have h5 : DataW.trod enc Try.prog w 0 sp held n 37 (([c0, c1, c2, c3, c4, c5, c6, c7, c8, c9].drop 9).take (Try.prog.cellsOf 37)) = some x5 := hel 5 _ rfl
  rw [cellsU8] at h0
  rw [cellsInt] at h1
  rw [cellsExpr] at h2 h3
  rw [cellsStmts] at h4 h5
  simp only [List.drop_zero, List.drop_succ_cons, List.take_succ_cons, List.take_zero] at h0 h1 h2 h3 h4 h5
  obtain ⟨kd, e0, -, w0⟩ := DataW.trod_int Try.underlying5 h0
  obtain ⟨tt, e1, -, w1⟩ := DataW.trod_int Try.underlying3 h1
  obtain ⟨ea, a0, a1, a2, e2, ra⟩ := rdEx_of_trod _ _ _ h2
  obtain ⟨eb, b0, b1, b2, e3, rb⟩ := rdEx_of_trod _ _ _ h3
  simp only [List.cons.injEq, and_true] at e0 e1 e2 e3
  obtain ⟨rfl, rfl, rfl⟩ := e2
  obtain ⟨rfl, rfl, rfl⟩ := e3
  subst e0; subst e1
  have B0 : 0 ≤ kd ∧ kd ≤ 255 := by simpa [Lit.wf, IntKind.min, IntKind.max, IntKind.signed, IntKind.bits] using w0
  have B1 : -9223372036854775808 ≤ tt ∧ tt ≤ 9223372036854775807 := by simpa [Lit.wf, IntKind.min, IntKind.max, IntKind.signed, IntKind.bits] using w1
  have hrows : ∀ {v : Value} {y : DataW H × List MemPlace}, DataW.trod enc Try.prog w 0 sp held n 37 [v] = some y → ∃ l p cap, v = .slice p l.length cap ∧ l.length ≤ 9223372036854775807 ∧ (l ≠ [] → ∃ q off, p = some ⟨q, off, none⟩ ∧ RdSts w q off l) := by
    intro v y hy
    obtain ⟨l, p, cap, g1, g2, g3⟩ := slice_list (fun (z : St) cs => ∃ k t a0 a1 a2 b0 b1 b2 bo el, cs = [k, t, a0, a1, a2, b0, b1, b2, bo, el] ∧ RdSt w z k t a0 a1 a2 b0 b1 b2 bo el) (by omega) cellsStmt Try.underlying37 hy (fun m cs y hm _ hy => ih m (by omega) cs y hy)
    refine ⟨l, p, cap, g1, g2, fun hne => ?_⟩
    obtain ⟨q, off, g4, g5⟩ := g3 hne
    refine ⟨q, off, g4, RdSts.of_get l fun k hk => ?_⟩
    obtain ⟨cs, ⟨k0, t0, u0, u1, u2, v0, v1, v2, bo, el, rfl, hst⟩, -, hc⟩ := g5 k hk
    exact ⟨k0, t0, u0, u1, u2, v0, v1, v2, bo, el, by simpa using hc 0 (by simp), by simpa using hc 1 (by simp), by simpa using hc 2 (by simp), by simpa using hc 3 (by simp), by simpa using hc 4 (by simp), by simpa using hc 5 (by simp), by simpa using hc 6 (by simp), by simpa using hc 7 (by simp), by simpa using hc 8 (by simp), by simpa using hc 9 (by simp), hst⟩
  obtain ⟨lb, pb, cb, rfl, lb2, lb3⟩ := hrows h4
  obtain ⟨le, pe, ce, rfl, le2, le3⟩ := hrows h5
  refine ⟨.mk kd tt ea eb lb le, _, _, _, _, _, _, _, _, _, _, rfl, ?_⟩
  unfold RdSt
  exact ⟨rfl, rfl, B0, B1, ra, rb, ⟨pb, cb, rfl, lb2, lb3⟩, ⟨pe, ce, rfl, le2, le3⟩⟩
theorem rdTx_of_trod {fuel : Nat} {v : Value} {x : DataW H × List MemPlace} (h : DataW.trod enc Try.prog w 0 sp held fuel 37 [v] = some x) : ∃ l, RdTx w l v := by
  obtain ⟨l, p, cap, g1, g2, g3⟩ := slice_list (fun (z : St) cs => ∃ k t a0 a1 a2 b0 b1 b2 bo el, cs = [k, t, a0, a1, a2, b0, b1, b2, bo, el] ∧ RdSt w z k t a0 a1 a2 b0 b1 b2 bo el) (by omega) cellsStmt Try.underlying37 h (fun m cs y hm _ hy => rdSt_of_trod m cs y hy)
  refine ⟨l, p, cap, g1, g2, fun hne => ?_⟩
  obtain ⟨q, off, g4, g5⟩ := g3 hne
  refine ⟨q, off, g4, RdSts.of_get l fun k hk => ?_⟩
  obtain ⟨cs, ⟨k0, t0, u0, u1, u2, v0, v1, v2, bo, el, rfl, hst⟩, -, hc⟩ := g5 k hk
  exact ⟨k0, t0, u0, u1, u2, v0, v1, v2, bo, el, by simpa using hc 0 (by simp), by simpa using hc 1 (by simp), by simpa using hc 2 (by simp), by simpa using hc 3 (by simp), by simpa using hc 4 (by simp), by simpa using hc 5 (by simp), by simpa using hc 6 (by simp), by simpa using hc 7 (by simp), by simpa using hc 8 (by simp), by simpa using hc 9 (by simp), hst⟩
theorem cellsTh : Try.prog.cellsOf 32 = 1 := by kernel_rfl
theorem rdThs_of_trod {fuel : Nat} {v : Value} {x : DataW H × List MemPlace} (h : DataW.trod enc Try.prog w 0 sp held fuel 23 [v] = some x) : ∃ l, RdThs w l v :=
  rdSl_of_trod RdTh cellsTh Try.underlying23 h (fun n u y _ hy => rdSl_of_trod RdTx cellsStmts Try.underlying32 hy (fun m u' y' _ hy' => rdTx_of_trod hy'))
theorem cellsSetup : Try.prog.cellsOf 25 = 5 := by kernel_rfl
theorem cellsThs : Try.prog.cellsOf 23 = 1 := by kernel_rfl
theorem cellsI64s : Try.prog.cellsOf 22 = 1 := by kernel_rfl
/-- A setup, as it is handed. -/
def RdSu (w : World) (cs : List Value) : Prop := ∃ (st ck tr : Int) (pi : Option Addr) (ni ci : Nat) (ths : List (List (List St))) (v : Value), cs = [.int .i64 st, .int .i64 ck, .int .i64 tr, .slice pi ni ci, v] ∧ RdThs w ths v ∧ ni ≤ 9223372036854775807
theorem rdSu_of_trod {fuel : Nat} {cs : List Value} {x : DataW H × List MemPlace} (h : DataW.trod enc Try.prog w 0 sp held fuel 25 cs = some x) : RdSu w cs := by
  obtain ⟨xs, n, rfl, -, hlen, hxs, hel⟩ := DataW.trod_struct Try.underlying25 h
  rw [cellsSetup] at hlen
  match cs, hlen with
  | [c0, c1, c2, c3, c4], _ =>
  match xs, hxs with
  | [x0, x1, x2, x3, x4], _ =>
  have h0 : DataW.trod enc Try.prog w 0 sp held n 3 (([c0, c1, c2, c3, c4].drop 0).take (Try.prog.cellsOf 3)) = some x0 := hel 0 _ rfl
  have h1 : DataW.trod enc Try.prog w 0 sp held n 3 (([c0, c1, c2, c3, c4].drop 1).take (Try.prog.cellsOf 3)) = some x1 := hel 1 _ rfl
  have h2 : DataW.trod enc Try.prog w 0 sp held n 3 (([c0, c1, c2, c3, c4].drop 2).take (Try.prog.cellsOf 3)) = some x2 := hel 2 _ rfl
  have h3 : DataW.trod enc Try.prog w 0 sp held n 22 (([c0, c1, c2, c3, c4].drop 3).take (Try.prog.cellsOf 22)) = some x3 := hel 3 _ rfl
  have h4 : DataW.trod enc Try.prog w 0 sp held n 23 (([c0, c1, c2, c3, c4].drop 4).take (Try.prog.cellsOf 23)) = some x4 := hel 4 _ rfl
  rw [cellsInt] at h0 h1 h2
  rw [cellsI64s] at h3
  rw [cellsThs] at h4
  simp only [List.drop_zero, List.drop_succ_cons, List.take_succ_cons, List.take_zero] at h0 h1 h2 h3 h4
  obtain ⟨st, e0, -, -⟩ := DataW.trod_int Try.underlying3 h0
  obtain ⟨ck, e1, -, -⟩ := DataW.trod_int Try.underlying3 h1
  obtain ⟨tr, e2, -, -⟩ := DataW.trod_int Try.underlying3 h2
  obtain ⟨pi, ni, ci, -, -, e3, hl, -⟩ := rd_slice Try.underlying22 h3
  simp only [List.cons.injEq, and_true] at e0 e1 e2 e3
  subst e0; subst e1; subst e2; subst e3
  obtain ⟨ths, hth⟩ := rdThs_of_trod h4
  exact ⟨st, ck, tr, pi, ni, ci, ths, c4, rfl, hth, hl⟩
end
theorem open_Su {H : Type} {enc : TypeId × Value → H} {w : World} {r : Reach} {b0 : Nat} {sp : Nat → Bool} {held : Bool} {v : Value} {d : DataW H} {p : List MemPlace}
    (hv : Value.okWide Try.prog w r b0 25 v) (h : DataW.Trod enc Try.prog w 0 sp held 25 v d p) : ∃ (st ck tr : Int) (pi : Option Addr) (ni ci : Nat) (ths : List (List (List St))) (u : Value), v = .agg #[.int .i64 st, .int .i64 ck, .int .i64 tr, .slice pi ni ci, u] ∧ RdThs w ths u ∧ ni ≤ 9223372036854775807 := by
  obtain ⟨cs, rfl, hsz⟩ := okWide_struct Try.underlying25 hv
  obtain ⟨fuel, hf⟩ := h
  obtain ⟨st, ck, tr, pi, ni, ci, ths, u, h1, h2, h3⟩ := rdSu_of_trod hf
  have h4 : cs.toList = [.int .i64 st, .int .i64 ck, .int .i64 tr, .slice pi ni ci, u] := h1
  exact ⟨st, ck, tr, pi, ni, ci, ths, u, by rw [← Array.toArray_toList (xs := cs), h4], h2, h3⟩
end Go.Proofs.Ytoeegiaajngpeaa
