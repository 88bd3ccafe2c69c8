/-
  Walk: shape.Check, whatever the trace.
-/
import Derived.Test.YtcddlnmcjmhbcaaDoorShV
import Derived.Test.YtcddlnmcjmhbcaaDoorShCg
namespace Go.Proofs.YtcddlnmcjmhbcaaDoor
set_option linter.unusedVariables false
set_option linter.unusedSimpArgs false
open Go Go.RowKit
theorem sV (T V S:Int) (a:Option Addr) (l:List Ev) (cap:Nat) (w:World) (hE:cO w a l) (hK:bn w) (hT:gJ w):
  Calls Tryd.prog 6 #[oZ T V S a l.length cap] w fun e w'=>e=.returned (.tuple #[.int .i64 (aW T V S l).1,.int .i64 (aW T V S l).2])∧Below w.heap.size w w':=
 check_any T V S a l cap w hE hK hT fun W c tb sb ev s h1 h2 h3 h4 h5 h6 e h7=>MG h1 h2 h3 h4 h5 h6 e h7
end Go.Proofs.YtcddlnmcjmhbcaaDoor
-- short
