/-
  Numbers as bytes, plainly: seven bits a byte, the least ones first. Nothing of the program.
-/
namespace Go.Proofs.YtokkafiphchejaaDoor
set_option linter.unusedVariables false
def putF : Nat → Nat → List Nat
  | 0, _ => []
  | k + 1, n => if n < 128 then [n] else (n % 128 + 128) :: putF k (n / 128)
def putN (n : Nat) : List Nat := putF 10 n
/-- number, how many bytes, error -/
def getF : Nat → Nat → Nat → Nat → List Nat → Nat × Nat × Nat
  | 0, _, _, _, _ => (0, 0, 20)
  | _ + 1, _, _, _, [] => (0, 0, 8)
  | k + 1, i, n, u, b :: bs => if i = 9 ∧ 1 < b then (0, 0, 20) else if b < 128 then (if b = 0 ∧ 0 < i then (0, 0, 11) else (n + b * u, i + 1, 0)) else getF k (i + 1) (n + (b - 128) * u) (u * 128) bs
def getN (l : List Nat) : Nat × Nat × Nat := getF 10 0 0 1 l

theorem putF_len : ∀ (k n : Nat), (putF k n).length ≤ k
  | 0, _ => by simp [putF]
  | k + 1, n => by
    unfold putF; split
    · simp
    · have := putF_len k (n / 128); simp; omega
theorem putF_byte : ∀ (k n : Nat), ∀ c ∈ putF k n, c < 256
  | 0, _, c, h => by simp [putF] at h
  | k + 1, n, c, h => by
    unfold putF at h; split at h
    · simp at h; omega
    · simp only [List.mem_cons] at h
      rcases h with rfl | h
      · omega
      · exact putF_byte k _ c h
/-- What was put is got, and what stands behind it is not looked at. -/
theorem get_put_aux : ∀ (k : Nat) (n a u i : Nat) (rest : List Nat), k + i = 10 → 1 ≤ k → n < 2 ^ (64 - 7 * i) → (0 < i → 0 < n) → getF k i a u (putF k n ++ rest) = (a + n * u, i + (putF k n).length, 0)
  | 0, _, _, _, _, _, _, h, _, _ => by omega
  | k + 1, n, a, u, i, rest, hk, _, hn, h0 => by
    by_cases h : n < 128
    · have h9 : ¬ (i = 9 ∧ 1 < n) := fun ⟨h1, h2⟩ => by subst h1; simp at hn; omega
      have hz : ¬ (n = 0 ∧ 0 < i) := fun ⟨h1, h2⟩ => by have := h0 h2; omega
      simp [putF, h, getF, h9, hz]
    · have hi : i < 9 := by
        rcases Nat.lt_or_ge i 9 with h' | h'
        · exact h'
        · have : i = 9 := by omega
          subst this; simp at hn; omega
      have h9 : ¬ (i = 9 ∧ 1 < n % 128 + 128) := by omega
      have hb : ¬ n % 128 + 128 < 128 := by omega
      simp only [putF, h, if_false, List.cons_append, getF, h9, hb]
      rw [get_put_aux k (n / 128) _ _ (i + 1) rest (by omega) (by omega) ?_ (by omega)]
      · have e : n = n % 128 + n / 128 * 128 := by omega
        simp only [Nat.add_sub_cancel, List.length_cons, Prod.mk.injEq, and_true]
        refine ⟨?_, by omega⟩
        have : n * u = (n % 128 + n / 128 * 128) * u := by rw [← e]
        rw [this, Nat.add_mul, Nat.mul_assoc, Nat.mul_comm 128 u, Nat.add_assoc]
      · have e : 64 - 7 * i = (64 - 7 * (i + 1)) + 7 := by omega
        rw [e, Nat.pow_add] at hn
        exact Nat.div_lt_of_lt_mul (by rw [Nat.mul_comm]; exact hn)
theorem get_put (n : Nat) (rest : List Nat) (h : n < 18446744073709551616) : getN (putN n ++ rest) = (n, (putN n).length, 0) := by
  have := get_put_aux 10 n 0 1 0 rest (by omega) (by omega) (by simpa using h) (by omega)
  simpa [getN, putN] using this
/-- What is got was put so. -/
theorem put_get_aux : ∀ (k : Nat) (l : List Nat) (a u i m s : Nat), k + i = 10 → (∀ c ∈ l, c < 256) → getF k i a u l = (m, s, 0) → ∃ n, m = a + n * u ∧ i < s ∧ s ≤ 10 ∧ s - i ≤ l.length ∧ l.take (s - i) = putF k n ∧ n < 2 ^ (64 - 7 * i) ∧ (0 < i → 0 < n)
  | 0, l, a, u, i, m, s, _, _, h => by simp [getF] at h
  | k + 1, [], a, u, i, m, s, _, _, h => by simp [getF] at h
  | k + 1, b :: bs, a, u, i, m, s, hk, hl, h => by
    have hb := hl b (by simp)
    unfold getF at h
    split at h
    · simp at h
    rename_i h9
    split at h
    · rename_i hlt
      split at h
      · simp at h
      rename_i hz
      simp only [Prod.mk.injEq, and_true] at h
      obtain ⟨rfl, rfl⟩ := h
      refine ⟨b, rfl, by omega, by omega, by simp, by simp [putF, hlt], ?_, by omega⟩
      by_cases hi : i = 9
      · subst hi; simp; omega
      · exact Nat.lt_of_lt_of_le hlt (by have := Nat.pow_le_pow_right (n := 2) (by decide) (show 7 ≤ 64 - 7 * i by omega); simpa using this)
    · rename_i hge
      obtain ⟨n, rfl, h1, h2, h3, h4, h5, h6⟩ := put_get_aux k bs _ _ (i + 1) m s (by omega) (fun c hc => hl c (by simp [hc])) h
      have hn : 0 < n := h6 (by omega)
      have hi : i < 9 := by
        rcases Nat.lt_or_ge i 9 with h' | h'
        · exact h'
        · omega
      refine ⟨(b - 128) + n * 128, ?_, by omega, h2, by simp; omega, ?_, ?_, by omega⟩
      · rw [Nat.add_mul, Nat.mul_assoc n, Nat.mul_comm 128 u, Nat.add_assoc]
      · obtain ⟨t, ht⟩ : ∃ t, s - i = t + 1 := ⟨s - i - 1, by omega⟩
        have e1 : ¬ (b - 128) + n * 128 < 128 := by omega
        have e2 : ((b - 128) + n * 128) % 128 + 128 = b := by omega
        have e3 : ((b - 128) + n * 128) / 128 = n := by omega
        rw [ht, List.take_succ_cons]
        simp only [putF, e1, if_false, e2, e3]
        rw [← h4]
        congr 2
        omega
      · have e : 64 - 7 * i = (64 - 7 * (i + 1)) + 7 := by omega
        rw [e, Nat.pow_add]
        omega
theorem put_get {l : List Nat} {m s : Nat} (hl : ∀ c ∈ l, c < 256) (h : getN l = (m, s, 0)) : l.take s = putN m ∧ 0 < s ∧ s ≤ 10 ∧ s ≤ l.length ∧ m < 18446744073709551616 := by
  obtain ⟨n, rfl, h1, h2, h3, h4, h5, -⟩ := put_get_aux 10 l 0 1 0 m s (by omega) hl h
  simp only [Nat.zero_add, Nat.mul_one, Nat.sub_zero] at *
  exact ⟨h4, h1, h2, h3, by simpa using h5⟩
theorem getF_err : ∀ (k i a u : Nat) (l : List Nat) {m s e : Nat}, getF k i a u l = (m, s, e) → e ≠ 0 → m = 0 ∧ s = 0
  | 0, _, _, _, _, m, s, e, h, _ => by simp [getF] at h; omega
  | _ + 1, _, _, _, [], m, s, e, h, _ => by simp [getF] at h; omega
  | k + 1, i, a, u, b :: bs, m, s, e, h, he => by
    unfold getF at h
    split at h
    · simp at h; omega
    split at h
    · split at h
      · simp at h; omega
      · simp at h; omega
    · exact getF_err k _ _ _ bs h he
end Go.Proofs.YtokkafiphchejaaDoor
