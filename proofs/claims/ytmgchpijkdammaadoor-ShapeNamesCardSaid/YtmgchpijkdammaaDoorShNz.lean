/-
  ShapeNames comes to true: reckoned; shape.Check by its contract.
-/
import Derived.Test.YtmgchpijkdammaaDoorShNt
import Derived.Test.YtmgchpijkdammaaDoorRxC
import Derived.Test.YtmgchpijkdammaaDoorRxB
namespace Go.Proofs.YtmgchpijkdammaaDoor.Rk
set_option linter.unusedVariables false
open Go Go.RowKit
set_option maxRecDepth 100000
set_option maxHeartbeats 4000000

theorem shNames_true : comesTrue checkO ft 100000 9 [] (stT []) = true := by decide +kernel
theorem shNames_any (w : World) (hK : KindsAt w) (hT : TabOk w) : Calls Tryd.prog 9 #[] w fun e w' => e = .returned (.bool true) ∧ Below w.heap.size w w' :=
  reckon_true ftok (checkO_ok hK hT) shNames_true rfl (goodT (by decide +kernel) fun n cs h => by cases h) freshT (LR.nil _)
end Go.Proofs.YtmgchpijkdammaaDoor.Rk
