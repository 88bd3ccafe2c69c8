/-
  The variables of a stripe, plainly. Nothing of the program.
-/
namespace Go.Proofs.Ytonckpblbdopmaa
set_option linter.unusedVariables false
/-- The numbers below n that leave s by t. -/
def varL (s t n : Nat) : List Nat := (List.range n).filter fun v => v % t == s
def stepL (s t m : Nat) : List Nat := (List.range m).map fun i => s + i * t
theorem varL_step {s t : Nat} (hs : s < t) (n : Nat) : ∃ m, n ≤ s + m * t ∧ (∀ i, i < m → s + i * t < n) ∧ varL s t n = stepL s t m := by
  induction n with
  | zero => exact ⟨0, by omega, by omega, rfl⟩
  | succ n ih =>
    obtain ⟨m, h1, h2, h3⟩ := ih
    by_cases he : s + m * t = n
    · refine ⟨m + 1, by rw [Nat.add_mul]; omega, fun i hi => ?_, ?_⟩
      · by_cases h : i < m
        · have := h2 i h; omega
        · obtain rfl : i = m := by omega
          omega
      · have hm : (n % t == s) = true := by
          rw [beq_iff_eq, ← he, Nat.add_mul_mod_self_right, Nat.mod_eq_of_lt hs]
        unfold varL stepL at h3 ⊢
        rw [List.range_succ, List.filter_append, h3, List.range_succ, List.map_append]
        simp [hm, he]
    · refine ⟨m, by omega, fun i hi => by have := h2 i hi; omega, ?_⟩
      have hm : (n % t == s) = false := by
        rw [beq_eq_false_iff_ne]
        intro hne
        have hq : n = s + n / t * t := by
          have := Nat.div_add_mod n t
          rw [Nat.mul_comm] at this
          omega
        rcases Nat.lt_or_ge (n / t) m with h | h
        · have := h2 (n / t) h; omega
        · have : m * t ≤ n / t * t := Nat.mul_le_mul_right t h
          omega
      unfold varL at h3 ⊢
      rw [List.range_succ, List.filter_append, h3]
      simp [hm]
theorem stepL_is {s t n m : Nat} (hs : s < t) (h1 : n ≤ s + m * t) (h2 : ∀ i, i < m → s + i * t < n) : stepL s t m = varL s t n := by
  obtain ⟨m', h3, h4, h5⟩ := varL_step hs n
  rw [h5]
  have : m = m' := by
    rcases Nat.lt_trichotomy m m' with h | h | h
    · have := h4 m h; omega
    · exact h
    · have := h2 m' h; omega
  rw [this]
theorem stepL_succ (s t m : Nat) : stepL s t (m + 1) = stepL s t m ++ [s + m * t] := by
  unfold stepL; rw [List.range_succ, List.map_append]; rfl
theorem varL_succ (s t n : Nat) : varL s t (n + 1) = if n % t = s then varL s t n ++ [n] else varL s t n := by
  unfold varL
  rw [List.range_succ, List.filter_append]
  split
  · rename_i h; simp [h]
  · rename_i h; simp [h]
theorem varL_mem {s t n v : Nat} : v ∈ varL s t n ↔ v < n ∧ v % t = s := by
  unfold varL; simp
theorem varL_len (s t n : Nat) : (varL s t n).length ≤ n := by
  have := List.length_filter_le (fun v => v % t == s) (List.range n)
  simpa [varL] using this
end Go.Proofs.Ytonckpblbdopmaa
