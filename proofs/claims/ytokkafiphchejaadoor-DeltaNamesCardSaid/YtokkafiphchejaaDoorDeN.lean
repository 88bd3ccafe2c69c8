/-
  DeltaNames comes to true: reckoned; event.May by its contract.
-/
import Derived.Test.YtokkafiphchejaaDoorDeNt
import Derived.Test.YtokkafiphchejaaDoorRkM
namespace Go.Proofs.YtokkafiphchejaaDoor.Rk
set_option linter.unusedVariables false
open Go Go.RowKit
set_option maxRecDepth 100000
set_option maxHeartbeats 4000000

theorem deNames_true : comesTrue mayO ft 100000 7 [] st0 = true := by decide +kernel
theorem deNames_any (w : World) (hK : KindsAt w) : Calls Tryd.prog 7 #[] w fun e w' => e = .returned (.bool true) ∧ Below w.heap.size w w' :=
  reckon_true ftok (mayO_ok hK) deNames_true rfl (good0 (by decide +kernel)) fresh0 (LR.nil _)
end Go.Proofs.YtokkafiphchejaaDoor.Rk
