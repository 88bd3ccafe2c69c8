/-
  The checker's machine: what each step leaves as it was; how many commits; traces in memory. Nothing of the program.
-/
import Derived.Test.YtcddlnmcjmhbcaaDoorRgF
namespace Go.Proofs.YtcddlnmcjmhbcaaDoor
set_option linter.unusedVariables false
set_option linter.unusedSimpArgs false
theorem doesS_keeps {s s' : Sh} {t : Th} {e : Ev} (h : doesS s t e = some s') : ∃ t', s'.ths = s.ths.set e.th.toNat t' ∧ t'.commits ≤ t.commits + 1 ∧ s'.vars = s.vars ∧ s'.sts.length = s.sts.length := by
  unfold doesS at h
  by_cases k1 : e.kind = 1
  · rw [if_pos k1] at h
    unfold beginS at h; split at h
    · cases h; exact ⟨_, rfl, by simp only []; omega, rfl, rfl⟩
    · cases h
  rw [if_neg k1] at h
  by_cases k2 : e.kind = 2
  · rw [if_pos k2] at h
    unfold lookS at h; split at h
    · cases h; exact ⟨_, rfl, by simp only []; omega, rfl, by simp [Sh.setTh, Sh.setSt]⟩
    · cases h
  rw [if_neg k2] at h
  by_cases k3 : e.kind = 3
  · rw [if_pos k3] at h
    unfold loadS at h; split at h
    · cases h; exact ⟨_, rfl, by simp only []; omega, rfl, rfl⟩
    · cases h
  rw [if_neg k3] at h
  by_cases k4 : e.kind = 4
  · rw [if_pos k4] at h
    unfold lockS at h; split at h
    · cases h; exact ⟨_, rfl, by simp only []; omega, rfl, by simp [Sh.setTh, Sh.setSt]⟩
    · cases h
  rw [if_neg k4] at h
  by_cases k5 : e.kind = 5
  · rw [if_pos k5] at h
    unfold bumpS at h; split at h
    · cases h; exact ⟨_, rfl, by simp only []; omega, rfl, rfl⟩
    · cases h
  rw [if_neg k5] at h
  by_cases k6 : e.kind = 6
  · rw [if_pos k6] at h
    unfold checkS at h; split at h
    · cases h; exact ⟨_, rfl, by simp only []; omega, rfl, rfl⟩
    · cases h
  rw [if_neg k6] at h
  by_cases k7 : e.kind = 7
  · rw [if_pos k7] at h
    unfold commitS at h; split at h
    · cases h; exact ⟨_, rfl, by simp only []; omega, rfl, rfl⟩
    · split at h
      · cases h; exact ⟨_, rfl, by simp only []; omega, rfl, rfl⟩
      · cases h
  rw [if_neg k7] at h
  by_cases k8 : e.kind = 8
  · rw [if_pos k8] at h
    unfold storeS at h; split at h
    · cases h; exact ⟨_, rfl, by simp only []; omega, rfl, rfl⟩
    · cases h
  rw [if_neg k8] at h
  by_cases k9 : e.kind = 9
  · rw [if_pos k9] at h
    unfold freedS at h; split at h
    · cases h; exact ⟨_, rfl, by split <;> simp only [] <;> omega, rfl, by simp [Sh.setTh, Sh.setSt]⟩
    · cases h
  rw [if_neg k9] at h
  by_cases k10 : e.kind = 10
  · rw [if_pos k10] at h
    unfold abortS at h; split at h
    · cases h; exact ⟨_, rfl, by simp only []; omega, rfl, rfl⟩
    · cases h
  rw [if_neg k10] at h
  by_cases k11 : e.kind = 11
  · rw [if_pos k11] at h
    unfold undoS at h; split at h
    · cases h; exact ⟨_, rfl, by simp only []; omega, rfl, by simp [Sh.setTh, Sh.setSt]⟩
    · cases h
  rw [if_neg k11] at h
  by_cases k12 : e.kind = 12
  · rw [if_pos k12] at h
    unfold waitS at h; split at h
    · cases h; exact ⟨_, rfl, by simp only []; omega, rfl, rfl⟩
    · cases h
  rw [if_neg k12] at h
  unfold wakeS at h; split at h
  · cases h; exact ⟨_, rfl, by simp only []; omega, rfl, rfl⟩
  · cases h
theorem stepS_keeps {s s' : Sh} {e : Ev} (h : stepS s e = some s') : ∃ t', s'.ths = s.ths.set e.th.toNat t' ∧ t'.commits ≤ (s.th e.th).commits + 1 ∧ s'.vars = s.vars ∧ s'.sts.length = s.sts.length := by
  unfold stepS at h
  split at h
  · exact doesS_keeps h
  · cases h
/-- No thread has ended more commits than that. -/
def CmB (s : Sh) (n : Nat) : Prop := ∀ i, i < s.ths.length → (s.ths.getD i Th.zero).commits ≤ (n : Int)
theorem CmB.step {s s' : Sh} {e : Ev} {n : Nat} (hc : CmB s n) (h : stepS s e = some s') : CmB s' (n + 1) := by
  obtain ⟨t', h1, h2, -, -⟩ := stepS_keeps h
  intro i hi
  rw [h1] at hi ⊢
  rw [List.length_set] at hi
  by_cases he : e.th.toNat = i
  · subst he
    rw [getD_set_eq _ _ _ _ hi]
    have := hc _ hi
    unfold Sh.th at h2
    omega
  · rw [getD_set_ne _ _ _ _ _ he]
    have := hc _ hi
    omega
theorem newS_cm (T V S : Int) : CmB (newS T V S) 0 := by
  intro i hi
  simp only [newS, List.length_replicate] at hi
  simp [newS, List.getD, List.getElem?_replicate, hi, Th.zero]
/-- The state behind some events, and what holds of it. -/
structure Behind (T V S : Int) (l : List Ev) (i : Nat) (s : Sh) : Prop where
  run : runS (newS T V S) (l.take i) = some s
  wf : Wf s
  cm : CmB s i
  nt : s.ths.length = T.toNat
  nv : s.vars = V
  ns : s.sts.length = S.toNat
theorem Behind.zero {T V S : Int} (h : sizeOk T V S = true) (l : List Ev) : Behind T V S l 0 (newS T V S) :=
  ⟨rfl, newS_wf h, newS_cm T V S, by simp [newS], rfl, by simp [newS]⟩
theorem Behind.step {T V S : Int} {l : List Ev} {i : Nat} {s s' : Sh} (h : Behind T V S l i s) (hi : i < l.length) (hs : stepS s l[i] = some s') : Behind T V S l (i + 1) s' := by
  obtain ⟨t', h1, -, h3, h4⟩ := stepS_keeps hs
  refine ⟨?_, stepS_wf h.wf hs, h.cm.step hs, by rw [h1, List.length_set]; exact h.nt, by rw [h3]; exact h.nv, by rw [h4]; exact h.ns⟩
  rw [List.take_succ_eq_append_getElem hi, runS_snoc, h.run]; exact hs
theorem comes_append {s s' : Sh} (l m : List Ev) : runS s l = some s' → comesS s (l ++ m) = l.length + comesS s' m := by
  induction l generalizing s with
  | nil => intro h; cases h; simp
  | cons e l ih =>
    intro h
    unfold runS at h
    simp only [List.cons_append, comesS, List.length_cons]
    cases hs : stepS s e with
    | none => rw [hs] at h; cases h
    | some r =>
      rw [hs] at h
      have := ih h
      simp only [this]; omega
theorem Behind.bad {T V S : Int} {l : List Ev} {i : Nat} {s : Sh} (h : Behind T V S l i s) (hi : i < l.length) (hs : stepS s l[i] = none) : comesS (newS T V S) l = i := by
  have e : l = l.take i ++ (l[i] :: l.drop (i + 1)) := by rw [← List.drop_eq_getElem_cons hi, List.take_append_drop]
  conv => lhs; rw [e]
  rw [comes_append _ _ h.run, comesS, hs, List.length_take]
  simp only []; omega
theorem Behind.all {T V S : Int} {l : List Ev} {s : Sh} (h : Behind T V S l l.length s) : comesS (newS T V S) l = l.length := by
  have := h.run
  rw [List.take_length] at this
  rw [comes_iff, this]; rfl
theorem checkT_size {T V S : Int} {l : List Ev} (h : sizeOk T V S = false) : checkT T V S l = (0, 1) := by unfold checkT; rw [if_pos h]
theorem checkT_great {T V S : Int} {l : List Ev} (h : sizeOk T V S = true) (hl : 1048576 < l.length) : checkT T V S l = (0, 40) := by unfold checkT; rw [if_neg (by rw [h]; decide), if_pos hl]
theorem Behind.checkT_bad {T V S : Int} {l : List Ev} {i : Nat} {s : Sh} (h : Behind T V S l i s) (hz : sizeOk T V S = true) (hl : l.length ≤ 1048576) (hi : i < l.length) (hs : stepS s l[i] = none) : checkT T V S l = ((i : Int), 4) := by
  unfold checkT; rw [if_neg (by rw [hz]; decide), if_neg (by omega), h.bad hi hs, if_pos hi]
theorem Behind.checkT_all {T V S : Int} {l : List Ev} {s : Sh} (h : Behind T V S l l.length s) (hz : sizeOk T V S = true) (hl : l.length ≤ 1048576) : checkT T V S l = ((l.length : Int), 0) := by
  unfold checkT; rw [if_neg (by rw [hz]; decide), if_neg (by omega), h.all, if_neg (by omega)]
end Go.Proofs.YtcddlnmcjmhbcaaDoor
