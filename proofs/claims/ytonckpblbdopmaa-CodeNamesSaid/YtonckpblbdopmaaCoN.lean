/-
  seesawlaw05.CodeNames comes to true: reckoned.
-/
import Derived.Test.YtonckpblbdopmaaCoNt
import Derived.Test.YtonckpblbdopmaaRqZ
namespace Go.Proofs.Ytonckpblbdopmaa.Rk
set_option linter.unusedVariables false
open Go Go.RowKit
set_option maxRecDepth 100000
set_option maxHeartbeats 4000000

theorem codeNames_true : comesTrue noO ft 100000 10 [] st0 = true := by decide +kernel
theorem codeNames_any (w : World) : Calls Try.prog 10 #[] w fun e w' => e = .returned (.bool true) ∧ Below w.heap.size w w' :=
  reckon_true ftok noO_ok codeNames_true rfl (good0 (by decide +kernel)) fresh0 (LR.nil _)
end Go.Proofs.Ytonckpblbdopmaa.Rk
