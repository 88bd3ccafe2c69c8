/-
  HistoryNames comes to true: reckoned; event.May by its contract, math/bits' table as it stands.
-/
import Derived.Test.YtjckgagkkknmnaaDoorHiNt
import Derived.Test.YtjckgagkkknmnaaDoorRtM
import Derived.Test.YtjckgagkkknmnaaDoorRtB
namespace Go.Proofs.YtjckgagkkknmnaaDoor.Rk
set_option linter.unusedVariables false
open Go Go.RowKit
set_option maxRecDepth 100000
set_option maxHeartbeats 4000000

theorem hiNames_true : comesTrue (liftO mayO) ft 100000 7 [] (stT [(1, tabL)]) = true := by decide +kernel
theorem hiNames_any (w : World) (hK : KindsAt w) (hT : TabOk w) : Calls Tryd.prog 7 #[] w fun e w' => e = .returned (.bool true) ∧ Below w.heap.size w w' :=
  reckon_true ftok (liftO_ok (mayO_ok hK)) hiNames_true rfl (goodT (by decide +kernel) fun n cs h => by
    rcases List.mem_singleton.1 h with h
    cases h
    exact tabB_in hT) freshT (LR.nil _)
end Go.Proofs.YtjckgagkkknmnaaDoor.Rk
