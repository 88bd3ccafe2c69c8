/-
  Reckoning: the world as it stands ahead of a call that reads no table; no function is left to a contract.
-/
import Derived.Test.YtonckpblbdopmaaRup
namespace Go.Proofs.Ytonckpblbdopmaa.Rk
set_option linter.unusedVariables false
open Go Go.RowKit

def noO : OrcT := fun _ _ _ => none
theorem noO_ok {w0 : World} {P : Program} : OrcOk w0 P noO := fun _ _ _ _ _ h => by cases h
def st0 : St := ⟨.leaf, 64, [], []⟩
def m00 : Tl := ⟨fun n => if n < 64 then some n else none, fun _ => 0⟩
theorem good0 {W : World} {P : Program} (hG : P.globals.size ≤ 64) : Good W P P.globals.size m00 st0.H W := by
  have hn : ∀ n, st0.H n = none := fun n => Tri.get_leaf _
  refine ⟨fun n o h => ?_, fun n cs h => ?_, fun n n' b h => ?_, fun g hg => ?_, fun k ob h => h⟩
  · rw [hn] at h; cases h
  · rw [hn] at h; cases h
  · rw [hn] at h; cases h
  · exact if_pos (by omega)
theorem fresh0 : ∀ k, st0.nx ≤ k → m00 k = none := fun k hk => if_neg (by show ¬ k < 64; exact Nat.not_lt.2 hk)
end Go.Proofs.Ytonckpblbdopmaa.Rk
