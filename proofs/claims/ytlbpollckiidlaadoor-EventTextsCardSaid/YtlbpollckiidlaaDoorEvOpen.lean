/-
  What comes in: an argument of type api.Event, or a string, that reads as data reads by our own predicates.
-/
import Derived.Test.YtlbpollckiidlaaDoorEvW6
import Derived.ChangeMaps5
import Derived.ProofKit
import Derived.OpenShut
namespace Go.Proofs.YtlbpollckiidlaaDoor
set_option linter.unusedVariables false
set_option linter.unusedSimpArgs false
open Go Go.RowKit Go.ChangeShapes Go.WideShapes Go.ChangeAt
theorem cellsEv : Tryd.prog.cellsOf 23 = 7 := by kernel_rfl
theorem cellsByte : Tryd.prog.cellsOf 5 = 1 := by kernel_rfl
theorem cellsInt : Tryd.prog.cellsOf 3 = 1 := by kernel_rfl
theorem cellsI64' : Tryd.prog.cellsOf 2 = 1 := by kernel_rfl
theorem lit_u8 {n : Int} (h : (Lit.int .u8 n).wf = true) : 0 ≤ n ∧ n ≤ 255 := by simpa [Lit.wf, IntKind.min, IntKind.max, IntKind.signed, IntKind.bits] using h
theorem lit_i64 {n : Int} (h : (Lit.int .i64 n).wf = true) : -9223372036854775808 ≤ n ∧ n ≤ 9223372036854775807 := by simpa [Lit.wf, IntKind.min, IntKind.max, IntKind.signed, IntKind.bits] using h
section
variable {H : Type} {enc : TypeId × Value → H} {w : World} {sp : Nat → Bool} {held : Bool}
set_option maxRecDepth 100000 in
/-- Seven cells that read as an event are one. -/
theorem ev_of_trod {fuel : Nat} {cs : List Value} {x : DataW H × List MemPlace} (h : DataW.trod enc Tryd.prog w 0 sp held fuel 23 cs = some x) : ∃ e, cs = evL e ∧ EvOk e := by
  obtain ⟨xs, n, rfl, -, hlen, hxs, hel⟩ := DataW.trod_struct Tryd.underlying23 h
  rw [cellsEv] at hlen
  match cs, hlen with
  | [c0, c1, c2, c3, c4, c5, c6], _ =>
  match xs, hxs with
  | [x0, x1, x2, x3, x4, x5, x6], _ =>
  have h0 : DataW.trod enc Tryd.prog w 0 sp held n 5 (([c0, c1, c2, c3, c4, c5, c6].drop 0).take (Tryd.prog.cellsOf 5)) = some x0 := hel 0 _ rfl
  have h1 : DataW.trod enc Tryd.prog w 0 sp held n 3 (([c0, c1, c2, c3, c4, c5, c6].drop 1).take (Tryd.prog.cellsOf 3)) = some x1 := hel 1 _ rfl
  have h2 : DataW.trod enc Tryd.prog w 0 sp held n 3 (([c0, c1, c2, c3, c4, c5, c6].drop 2).take (Tryd.prog.cellsOf 3)) = some x2 := hel 2 _ rfl
  have h3 : DataW.trod enc Tryd.prog w 0 sp held n 3 (([c0, c1, c2, c3, c4, c5, c6].drop 3).take (Tryd.prog.cellsOf 3)) = some x3 := hel 3 _ rfl
  have h4 : DataW.trod enc Tryd.prog w 0 sp held n 3 (([c0, c1, c2, c3, c4, c5, c6].drop 4).take (Tryd.prog.cellsOf 3)) = some x4 := hel 4 _ rfl
  have h5 : DataW.trod enc Tryd.prog w 0 sp held n 2 (([c0, c1, c2, c3, c4, c5, c6].drop 5).take (Tryd.prog.cellsOf 2)) = some x5 := hel 5 _ rfl
  have h6 : DataW.trod enc Tryd.prog w 0 sp held n 5 (([c0, c1, c2, c3, c4, c5, c6].drop 6).take (Tryd.prog.cellsOf 5)) = some x6 := hel 6 _ rfl
  rw [cellsByte] at h0 h6
  rw [cellsInt] at h1 h2 h3 h4
  rw [cellsI64'] at h5
  simp only [List.drop_zero, List.drop_succ_cons, List.take_succ_cons, List.take_zero] at h0 h1 h2 h3 h4 h5 h6
  obtain ⟨k, e0, -, w0⟩ := DataW.trod_int Tryd.underlying5 h0
  obtain ⟨th, e1, -, w1⟩ := DataW.trod_int Tryd.underlying3 h1
  obtain ⟨tx, e2, -, w2⟩ := DataW.trod_int Tryd.underlying3 h2
  obtain ⟨a, e3, -, w3⟩ := DataW.trod_int Tryd.underlying3 h3
  obtain ⟨v, e4, -, w4⟩ := DataW.trod_int Tryd.underlying3 h4
  obtain ⟨x', e5, -, w5⟩ := DataW.trod_int Tryd.underlying2 h5
  obtain ⟨y, e6, -, w6⟩ := DataW.trod_int Tryd.underlying5 h6
  simp only [List.cons.injEq, and_true] at e0 e1 e2 e3 e4 e5 e6
  subst e0; subst e1; subst e2; subst e3; subst e4; subst e5; subst e6
  exact ⟨⟨k, th, tx, a, v, x', y⟩, rfl, lit_u8 w0, lit_i64 w1, lit_i64 w2, lit_i64 w3, lit_i64 w4, lit_i64 w5, lit_u8 w6⟩
set_option maxRecDepth 100000 in
theorem open_Ev {r : Reach} {b0 : Nat} {v : Value} {d : DataW H} {p : List MemPlace}
    (hv : Value.okWide Tryd.prog w r b0 23 v) (h : DataW.Trod enc Tryd.prog w 0 sp held 23 v d p) :
    ∃ e, v = evA e ∧ EvOk e := by
  obtain ⟨cs, rfl, hsz⟩ := okWide_struct Tryd.underlying23 hv
  obtain ⟨fuel, hf⟩ := h
  obtain ⟨e, h1, h2⟩ := ev_of_trod hf
  have h1' : cs.toList = evL e := h1
  exact ⟨e, by rw [← Array.toArray_toList (xs := cs), h1']; rfl, h2⟩
set_option maxRecDepth 100000 in
theorem open_Str {r : Reach} {b0 : Nat} {v : Value} {d : DataW H} {p : List MemPlace}
    (hv : Value.okWide Tryd.prog w r b0 9 v) (h : DataW.Trod enc Tryd.prog w 0 sp held 9 v d p) :
    ∃ L : List UInt8, v = .string ⟨L.toArray⟩ := by
  obtain ⟨s, rfl, -⟩ := Go.ChangeMaps.open_string Tryd.underlying9 hv h
  exact ⟨s.data.toList, by rw [Array.toArray_toList]⟩
end
end Go.Proofs.YtlbpollckiidlaaDoor
