/-
  seesawlaw06.SetupNames comes to true: reckoned.
-/
import Derived.Test.YtonckpblbdopmaaSeNt
import Derived.Test.YtonckpblbdopmaaRkZ
namespace Go.Proofs.Ytonckpblbdopmaa.Rk
set_option linter.unusedVariables false
open Go Go.RowKit
set_option maxRecDepth 100000
set_option maxHeartbeats 4000000

theorem setupNames_true : comesTrue noO ft 100000 11 [] st0 = true := by decide +kernel
theorem setupNames_any (w : World) : Calls Try.prog 11 #[] w fun e w' => e = .returned (.bool true) ∧ Below w.heap.size w w' :=
  reckon_true ftok noO_ok setupNames_true rfl (good0 (by decide +kernel)) fresh0 (LR.nil _)
end Go.Proofs.Ytonckpblbdopmaa.Rk
