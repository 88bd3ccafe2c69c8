/-
  What a plain seat's last texts need: the program's own facts.
-/
import Derived.Test.YtaklfjjkeebheaaRows
import Derived.Test.YtaklfjjkeebheaaFrame
import Derived.ProofKit
import Derived.ChangeMaps5
namespace Go.Proofs.Ytaklfjjkeebheaa
set_option linter.unusedVariables false
open Go Go.RowKit Go.ChangeShapes Go.WideShapes Go.ChangeAt

theorem ownKnob_none : ownKnob Try.prog.godebug = none := by kernel_rfl
theorem laidOut_ok : laidOutB Try.prog = true := by kernel_rfl
theorem trodAll_none' {H : Type} {enc : TypeId × Value → H} {P : Program} {w : World} {base : Nat} {sp : Nat → Bool} {held : Bool} {vs : List Value} {ds : List (DataW H)} {ps : List MemPlace} (h : DataW.TrodAll enc P w base sp held [] vs ds ps) : vs = [] ∧ ds = [] ∧ ps = [] := by
  cases vs <;> cases ds <;> first | exact ⟨rfl, rfl, h⟩ | exact h.elim
end Go.Proofs.Ytaklfjjkeebheaa
