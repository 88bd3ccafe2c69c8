/-
  The shelf's contract of slices.Insert, laid at this program: by numbers alone.
-/
import Derived.Shelf.Spec.SlicesInsertGrow
import Derived.Ground.Names2Prog
import Derived.Test.YtcdgfnocjnampaaProg
namespace Go.Proofs.Ytcdgfnocjnampaa
set_option linter.unusedVariables false
open Go.Shelf
def laysIns_ren : Go.Shelf.Ren := ⟨fun | 21 => 15 | 27 => 22 | 28 => 23 | 35 => 27 | 39 => 28 | n => n, fun | 22 => 23 | 3 => 3 | 4 => 4 | 0 => 0 | n => n, fun | n => n⟩
theorem laysIns : Go.Proofs.Lays2.n21 Try.prog laysIns_ren := {
  mixed := by kernel_rfl
  f21 := Try.func15.trans (congrArg some (by kernel_rfl))
  f27 := Try.func22.trans (congrArg some (by kernel_rfl))
  f28 := Try.func23.trans (congrArg some (by kernel_rfl))
  f35 := Try.func27.trans (congrArg some (by kernel_rfl))
  f39 := Try.func28.trans (congrArg some (by kernel_rfl))
  t0 := Try.underlying0
  a0 := Try.isAgg0
  z0 := Try.sizeOf0
  v0 := Try.zeroValue0
  t3 := Try.underlying3
  a3 := Try.isAgg3
  z3 := Try.sizeOf3
  v3 := Try.zeroValue3
  t4 := Try.underlying4
  a4 := Try.isAgg4
  z4 := Try.sizeOf4
  v4 := Try.zeroValue4
  t22 := Try.underlying23
  a22 := Try.isAgg23
  z22 := Try.sizeOf23
  v22 := Try.zeroValue23
  i3 := by kernel_rfl }
end Go.Proofs.Ytcdgfnocjnampaa
