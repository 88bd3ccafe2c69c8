/-
  Walks: history.Of and history.Split, whatever the trace.
-/
import Derived.Test.YtjckgagkkknmnaaDoorHiO
namespace Go.Proofs.YtjckgagkkknmnaaDoor
set_option linter.unusedVariables false
open Go Go.RowKit
theorem of_any (T V S : Int) (a : Option Addr) (l : List Ev) (cap : Nat) (w : World) (hE : EvsAt w a l) (hK : KindsAt w) (hT : TabOk w) : Calls Tryd.prog 10 #[trA T V S a l.length cap] w (OfP T V S l w) := by
  by_cases hc : (checkT T V S l).2 = 0
  · exact of_ok T V S a l cap w hE hK hT hc
  · exact of_no T V S a l cap w hE hK hT hc
theorem split_any (T V S : Int) (a : Option Addr) (l : List Ev) (cap : Nat) (w : World) (hE : EvsAt w a l) (hK : KindsAt w) (hT : TabOk w) : Calls Tryd.prog 11 #[trA T V S a l.length cap] w (SplitP T V S l w) := by
  by_cases hc : (checkT T V S l).2 = 0
  · exact split_ok T V S a l cap w hE hK hT hc
  · exact split_no T V S a l cap w hE hK hT hc
end Go.Proofs.YtjckgagkkknmnaaDoor
