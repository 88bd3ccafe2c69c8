/-
  Walks: shape.New (what it refuses).
-/
import Derived.Test.YtjckgagkkknmnaaDoorShR
namespace Go.Proofs.YtjckgagkkknmnaaDoor
set_option linter.unusedVariables false
open Go Go.RowKit
set_option maxRecDepth 100000 in
set_option maxHeartbeats 4000000 in
set_option maxRecDepth 100000 in
theorem new_bad (T V S : Int) (w : World) (hb : ¬ (0 ≤ T ∧ T ≤ 6 ∧ 1 ≤ V ∧ V ≤ 32 ∧ 1 ≤ S ∧ S ≤ V)) :
    Calls Tryd.prog 22 #[.int .i64 T, .int .i64 V, .int .i64 S] w fun e w' => e = .returned (.tuple #[.pointer none, .int .i64 1]) ∧ w = w' := by
  by_cases h1 : T < 0 <;> by_cases h2 : 6 < T <;> by_cases h3 : V < 1 <;> by_cases h4 : 32 < V <;> by_cases h5 : S < 1 <;> by_cases h6 : V < S <;> first
    | (exfalso; omega)
    | (clear hb
       go_enter Tryd.func22, Tryd.ntmps22
       go_wp2
       go_ret2
       exact ⟨rfl, rfl⟩)
end Go.Proofs.YtjckgagkkknmnaaDoor
