/-
  Walks: SetupParted.
-/
import Derived.Test.YtonckpblbdopmaaSeL1
import Derived.Laws.MakeOwn
namespace Go.Proofs.Ytonckpblbdopmaa
set_option linter.unusedVariables false
open Go Go.RowKit

/-- A row of numbers. -/
def rowI (l : List Nat) : Array Value := (numV l).toArray
theorem rowI_at (l : List Nat) (j : Nat) (h : j < l.length) : (rowI l)[j]? = some (.int .i64 (l[j] : Int)) := by
  unfold rowI numV; simp [h]
theorem rowI_set (l : List Nat) (j c : Nat) : (rowI l).setIfInBounds j (.int .i64 (c : Int)) = rowI (l.set j c) := by
  unfold rowI numV; rw [List.setIfInBounds_toArray, List.map_set, List.map_set]
set_option maxRecDepth 100000 in
set_option maxHeartbeats 4000000 in
theorem run_mkints (W : World) (n : Nat) (hn : n ≤ 1000000) : (Instr.makeSlice 42 (.int .i64 (n : Int)) (.int .i64 (n : Int))).run Try.prog W = .ok (.slice (some ⟨W.heap.size, 0, none⟩) n n) (W.alloc (.cells (rowI (List.replicate n 0)) 3)) := by
  obtain ⟨i0, hi, hz0, hz1, hz2⟩ := info_parts infoInt
  rw [run_make W 42 3 i0 _ Try.underlying42 hi hz0 .i64 .i64 n n (by omega) (by omega) (by rw [hz2]; omega) (by omega), hz1]
  congr 1
  simp only [Int.toNat_natCast, Nat.mul_one]
  congr 1
  unfold rowI numV madeCells
  congr 1
  apply Array.ext
  · simp
  · intro j h1 h2
    simp [Value.cells, Nat.mod_one]

/-- How often each number was met: those that leave less than i by t, and of those that leave i the first k. -/
def metL (t n i k : Nat) : List Nat := (List.range n).map fun v => if v % t < i ∨ v ∈ (varL i t n).take k then 1 else 0
theorem metL_len (t n i k : Nat) : (metL t n i k).length = n := by simp [metL]
theorem metL_at (t n i k v : Nat) (h : v < n) : (metL t n i k)[v]? = some (if v % t < i ∨ v ∈ (varL i t n).take k then 1 else 0) := by
  unfold metL; simp [h]
theorem metL_0 (t n : Nat) : metL t n 0 0 = List.replicate n 0 := by
  apply List.ext_getElem?
  intro v
  rcases Nat.lt_or_ge v n with h | h
  · rw [metL_at _ _ _ _ _ h]; simp [h]
  · rw [List.getElem?_eq_none (by rw [metL_len]; exact h), List.getElem?_eq_none (by simpa using h)]
theorem varL_sorted (s t n : Nat) : (varL s t n).Pairwise (· < ·) := by
  unfold varL
  exact List.Pairwise.filter _ (List.pairwise_lt_range)
theorem varL_get_lt {s t n j k : Nat} (h1 : j < k) (h2 : k < (varL s t n).length) : (varL s t n)[j]'(by omega) < (varL s t n)[k] := List.pairwise_iff_getElem.1 (varL_sorted s t n) j k (by omega) h2 h1
theorem metL_step {t n i k : Nat} (ht : i < t) (hk : k < (varL i t n).length) : (metL t n i k).getD (varL i t n)[k] 0 = 0 ∧ metL t n i (k + 1) = (metL t n i k).set (varL i t n)[k] 1 := by
  have hm := varL_mem.1 (List.getElem_mem hk)
  have hnot : (varL i t n)[k] ∉ (varL i t n).take k := by
    intro h
    obtain ⟨j, hj, he⟩ := List.mem_iff_getElem.1 h
    have hj' : j < k := by simp at hj; omega
    rw [List.getElem_take] at he
    have := varL_get_lt hj' hk
    omega
  constructor
  · have hno : ¬ ((varL i t n)[k] % t < i ∨ (varL i t n)[k] ∈ (varL i t n).take k) := by
      rintro (h | h)
      · omega
      · exact hnot h
    rw [List.getD_eq_getElem?_getD, metL_at _ _ _ _ _ hm.1, if_neg hno]
    rfl
  · apply List.ext_getElem?
    intro v
    rcases Nat.lt_or_ge v n with h | h
    · rw [metL_at _ _ _ _ _ h, List.take_succ_eq_append_getElem hk]
      by_cases he : (varL i t n)[k] = v
      · rw [he, List.getElem?_set_self (by rw [metL_len]; exact h)]
        simp
      · rw [List.getElem?_set_ne he, metL_at _ _ _ _ _ h]
        have : v ∈ (varL i t n).take k ++ [(varL i t n)[k]] ↔ v ∈ (varL i t n).take k := by
          simp only [List.mem_append, List.mem_singleton]
          exact ⟨fun h => h.resolve_right (fun h2 => he h2.symm), Or.inl⟩
        simp only [this]
    · rw [List.getElem?_eq_none (by rw [metL_len]; exact h), List.getElem?_eq_none (by simp [metL_len]; exact h)]
theorem metL_next {t n i : Nat} : metL t n i (varL i t n).length = metL t n (i + 1) 0 := by
  apply List.ext_getElem?
  intro v
  rcases Nat.lt_or_ge v n with h | h
  · rw [metL_at _ _ _ _ _ h, metL_at _ _ _ _ _ h, List.take_length, List.take_zero]
    have : (v % t < i ∨ v ∈ varL i t n) ↔ (v % t < i + 1 ∨ v ∈ ([] : List Nat)) := by
      rw [varL_mem]; simp; omega
    simp only [this]
  · rw [List.getElem?_eq_none (by rw [metL_len]; exact h), List.getElem?_eq_none (by rw [metL_len]; exact h)]
theorem metL_all {t n v : Nat} (ht : 0 < t) (h : v < n) : (metL t n t 0)[v]? = some 1 := by
  rw [metL_at _ _ _ _ _ h, if_pos (Or.inl (Nat.mod_lt _ ht))]
end Go.Proofs.Ytonckpblbdopmaa
