/-
  What comes in: a string, with its length bounded.
-/
import Derived.Test.YtlbpollckiidlaaDoorEvOpen
namespace Go.Proofs.YtlbpollckiidlaaDoor
set_option linter.unusedVariables false
set_option linter.unusedSimpArgs false
open Go Go.RowKit Go.ChangeShapes Go.WideShapes Go.ChangeAt
section
variable {H : Type} {enc : TypeId × Value → H} {w : World} {sp : Nat → Bool} {held : Bool}
set_option maxRecDepth 100000 in
theorem open_StrL {r : Reach} {b0 : Nat} {v : Value} {d : DataW H} {p : List MemPlace}
    (hv : Value.okWide Tryd.prog w r b0 9 v) (h : DataW.Trod enc Tryd.prog w 0 sp held 9 v d p) :
    ∃ L : List UInt8, v = .string ⟨L.toArray⟩ ∧ L.length ≤ 9223372036854775807 := by
  obtain ⟨s, rfl, -, -, hs⟩ := Go.ChangeMaps.open_string Tryd.underlying9 hv h
  refine ⟨s.data.toList, by rw [Array.toArray_toList], ?_⟩
  have : s.data.size = s.size := rfl
  rw [Array.length_toList, this]
  exact hs
end
end Go.Proofs.YtlbpollckiidlaaDoor
