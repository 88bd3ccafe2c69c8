/-
  SliceNames: what its examples come to. Nothing of the program.
-/
import Derived.Test.YtnmbacleaijhmaaDoorSgD
namespace Go.Proofs.YtnmbacleaijhmaaDoor
set_option linter.unusedVariables false
set_option linter.unusedSimpArgs false
set_option linter.unusedVariables false
def evN : List Ev := [⟨1, 0, 0, 0, 0, 0, 0⟩, ⟨1, 1, 0, 0, 0, 0, 0⟩, ⟨4, 0, 0, 0, 0, 0, 0⟩, ⟨2, 1, 0, 1, 0, 0, 0⟩, ⟨5, 0, 0, 0, 1, 0, 0⟩, ⟨3, 1, 0, 1, 0, 0, 0⟩, ⟨7, 0, 0, 0, 1, 0, 0⟩, ⟨8, 0, 0, 0, 0, 0, 0⟩, ⟨7, 1, 0, 0, 0, 0, 0⟩, ⟨9, 0, 0, 0, 0, 0, 0⟩,
  ⟨1, 2, 0, 0, 1, 0, 0⟩, ⟨2, 2, 0, 0, 1, 0, 0⟩, ⟨3, 2, 0, 0, 0, 0, 0⟩, ⟨4, 2, 0, 1, 0, 0, 0⟩, ⟨5, 2, 0, 0, 2, 0, 0⟩, ⟨7, 2, 0, 0, 2, 0, 0⟩, ⟨8, 2, 0, 1, 0, 0, 0⟩, ⟨9, 2, 0, 1, 0, 0, 0⟩]
theorem evN_fine : (checkT 3 2 2 evN).2 = 0 := by decide +kernel
theorem evN_tail : (checkT 3 2 2 evN.tail).2 = 4 := by decide +kernel
theorem evN_k0 : keptL (histT evN).out [0] = [0] := by decide +kernel
theorem evN_k1 : keptL (histT evN).out [1] = [0, 2] := by decide +kernel
theorem evN_kn : keptL (histT evN).out [] = [] := by decide +kernel
theorem evN_0 : (byF evN [0] evN.length).length = 6 ∧ ((byF evN [0] evN.length).getD 5 ⟨0, 0, 0, 0, 0, 0, 0⟩).kind = 9 := by decide +kernel
theorem evN_1 : (byF evN [0, 2] evN.length).length = 14 ∧ ((byF evN [0, 2] evN.length).getD 6 ⟨0, 0, 0, 0, 0, 0, 0⟩).th = 2 := by decide +kernel
def namA : List Att := [⟨0, 0, 0, 1, 0, 2, true, [], [(0, 0)]⟩, ⟨1, 0, 2, 3, 2, 4, true, [(1, 0)], [(0, 0)]⟩, ⟨2, 0, 4, 5, 0, 3, true, [], [(1, 0)]⟩]
def namB : List Att := [⟨0, 1, 0, -1, 0, 2, true, [], [(0, 0)]⟩, ⟨1, 0, 2, 3, 2, 4, true, [(1, 0)], [(0, 0)]⟩, ⟨2, 0, 4, 5, 0, 3, true, [], [(1, 0)]⟩, ⟨0, 0, 6, 7, 0, 0, true, [], []⟩, ⟨0, 1, 8, 9, 0, 0, false, [], []⟩]
theorem namA_0 : keptL namA [0] = [1] := by decide +kernel
theorem namA_100 : keptL namA [1, 0, 0] = [1, 2] := by decide +kernel
theorem namA_1 : keptL namA [1] = [2] := by decide +kernel
theorem namB_n : keptL namB [] = [0, 3] := by decide +kernel
theorem namB_1 : keptL namB [1] = [0, 2, 3] := by decide +kernel
end Go.Proofs.YtnmbacleaijhmaaDoor
