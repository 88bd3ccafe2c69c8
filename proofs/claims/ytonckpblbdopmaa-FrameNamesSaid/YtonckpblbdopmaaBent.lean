/-
  Texts of which some bytes are turned: place by place. Nothing of the program.
-/
import Derived.Test.YtonckpblbdopmaaCrc
namespace Go.Proofs.Ytonckpblbdopmaa
set_option linter.unusedVariables false
theorem bent_get : ∀ (s : List Nat) (k : Nat) (ds : List Nat) (i : Nat), i < s.length → (bentL s k ds)[i]? = some (s.getD i 0 ^^^ (if k ≤ i then ds.getD (i - k) 0 else 0))
  | [], _, _, i, h => by simp at h
  | c :: cs, k, [], i, h => by
    simp only [bentL, List.getD_nil, ite_self, Nat.xor_zero]
    rw [List.getElem?_eq_getElem h]
    simp [List.getD_eq_getElem?_getD, List.getElem?_eq_getElem h]
  | c :: cs, 0, d :: ds, 0, h => by simp [bentL]
  | c :: cs, 0, d :: ds, i + 1, h => by
    have h' : i < cs.length := by simpa using h
    have := bent_get cs 0 ds i h'
    simp only [bentL, List.getElem?_cons_succ, this]
    simp
  | c :: cs, n + 1, d :: ds, 0, h => by simp [bentL]
  | c :: cs, n + 1, d :: ds, i + 1, h => by
    have h' : i < cs.length := by simpa using h
    have := bent_get cs n (d :: ds) i h'
    simp only [bentL, List.getElem?_cons_succ, this]
    simp
theorem bent_snoc (s : List Nat) (k : Nat) (ds : List Nat) (d : Nat) : bentL s k (ds ++ [d]) = (bentL s k ds).set (k + ds.length) (s.getD (k + ds.length) 0 ^^^ d) := by
  apply List.ext_getElem?
  intro i
  rcases Nat.lt_or_ge i s.length with h | h
  · rw [bent_get _ _ _ _ h]
    by_cases he : k + ds.length = i
    · subst he
      rw [List.getElem?_set_self (by rw [bent_len]; exact h)]
      simp [List.getD_eq_getElem?_getD]
    · rw [List.getElem?_set_ne he, bent_get _ _ _ _ h]
      congr 2
      split
      · rename_i hk
        rcases Nat.lt_or_ge (i - k) ds.length with h2 | h2
        · simp [List.getD_eq_getElem?_getD, List.getElem?_append_left h2]
        · have h3 : ds.length < i - k := by omega
          rw [List.getD_eq_getElem?_getD, List.getD_eq_getElem?_getD, List.getElem?_eq_none (by simp; omega), List.getElem?_eq_none h2]
      · rfl
  · rw [List.getElem?_eq_none (by rw [bent_len]; exact h), List.getElem?_eq_none (by simp [bent_len]; exact h)]
theorem bent_byte (s : List Nat) (k : Nat) (ds : List Nat) (hs : ∀ c ∈ s, c < 256) (hd : ∀ c ∈ ds, c < 256) : ∀ c ∈ bentL s k ds, c < 256 := by
  intro c hc
  obtain ⟨i, hi⟩ := List.mem_iff_getElem?.1 hc
  have hl : i < s.length := by
    have := (List.getElem?_eq_some_iff.1 hi).1
    rwa [bent_len] at this
  rw [bent_get _ _ _ _ hl] at hi
  obtain rfl := Option.some.inj hi
  refine xor_lt 8 ?_ ?_
  · rw [List.getD_eq_getElem?_getD, List.getElem?_eq_getElem hl]; exact hs _ (List.getElem_mem hl)
  · split
    · rw [List.getD_eq_getElem?_getD]
      rcases Nat.lt_or_ge (i - k) ds.length with h | h
      · rw [List.getElem?_eq_getElem h]; exact hd _ (List.getElem_mem h)
      · rw [List.getElem?_eq_none h]; decide
    · decide
theorem bent_keep (s : List Nat) (k m : Nat) (ds : List Nat) (h : m ≤ k) : (bentL s k ds).take m = s.take m := by
  apply List.ext_getElem?
  intro i
  rw [List.getElem?_take, List.getElem?_take]
  split
  · rename_i hi
    rcases Nat.lt_or_ge i s.length with h2 | h2
    · rw [bent_get _ _ _ _ h2, if_neg (by omega), Nat.xor_zero, List.getD_eq_getElem?_getD, List.getElem?_eq_getElem h2]; rfl
    · rw [List.getElem?_eq_none (by rw [bent_len]; exact h2), List.getElem?_eq_none h2]
  · rfl
end Go.Proofs.Ytonckpblbdopmaa
