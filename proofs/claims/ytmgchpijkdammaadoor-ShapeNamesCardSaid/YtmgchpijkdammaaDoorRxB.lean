/-
  Reckoning: math/bits' table as it stands ahead of a call.
-/
import Derived.Test.YtmgchpijkdammaaDoorRtXp
import Derived.Test.YtmgchpijkdammaaDoorShC2
namespace Go.Proofs.YtmgchpijkdammaaDoor.Rk
set_option linter.unusedVariables false
open Go Go.RowKit

def tabL : List AV := (List.range 32).map fun i => .int .u8 ((Lib.deBruijn32tab.getD i 0 : Nat) : Int)
theorem tabL_get {i : Nat} (hi : i < 32) : tabL[i]? = some (.int .u8 ((Lib.deBruijn32tab.getD i 0 : Nat) : Int)) := by
  unfold tabL
  rw [List.getElem?_map, List.getElem?_range hi]
  rfl
theorem tabL_len : tabL.length = 32 := by unfold tabL; simp
theorem tabB_in {W : World} (h : TabOk W) : TabIn W 2 tabL := by
  refine ⟨by decide, ?_⟩
  have hc : ∃ c el fr, W.heap[2]? = some (.cells c el fr) ∧ ∀ i, i < 32 → c[i]? = some (.int .u8 ((Lib.deBruijn32tab.getD i 0 : Nat) : Int)) := by
    have h0 := h 0 (by decide)
    simp only [World.cell?] at h0 h
    split at h0
    · rename_i cs el fr hb
      refine ⟨cs, el, fr, hb, fun i hi => ?_⟩
      have := h i hi
      unfold World.cell? at this
      simp only [hb] at this
      simpa using this
    · cases h0
  obtain ⟨c, el, fr, hb, hget⟩ := hc
  have hsz : 32 ≤ c.size := by
    have := hget 31 (by decide)
    have := (Array.getElem?_eq_some_iff.1 this).1
    omega
  refine ⟨c, el, fr, hb, by rw [tabL_len]; exact hsz, ?_⟩
  rw [tabL_len]
  refine ⟨by rw [tabL_len, List.length_take, Array.length_toList]; omega, fun i a v ha hv => ?_⟩
  have hi : i < 32 := by
    rw [← tabL_len]
    exact (List.getElem?_eq_some_iff.1 ha).1
  rw [tabL_get hi] at ha
  cases ha
  rw [List.getElem?_take, if_pos hi, Array.getElem?_toList, hget i hi] at hv
  cases hv
  exact .int _ _
end Go.Proofs.YtmgchpijkdammaaDoor.Rk
