/-
  seesawlaw07.PackNames comes to true: reckoned; frames by their contracts.
-/
import Derived.Test.YtonckpblbdopmaaPaNt
import Derived.Test.YtonckpblbdopmaaRuF
namespace Go.Proofs.Ytonckpblbdopmaa.Rk
set_option linter.unusedVariables false
open Go Go.RowKit
set_option maxRecDepth 100000
set_option maxHeartbeats 4000000

theorem packNames_true : comesTrue (liftO frameO) ft 100000 16 [] st0 = true := by decide +kernel
theorem packNames_any (w : World) : Calls Try.prog 16 #[] w fun e w' => e = .returned (.bool true) ∧ Below w.heap.size w w' :=
  reckon_true ftok (liftO_ok frameO_ok) packNames_true rfl (good0 (by decide +kernel)) fresh0 (LR.nil _)
end Go.Proofs.Ytonckpblbdopmaa.Rk
