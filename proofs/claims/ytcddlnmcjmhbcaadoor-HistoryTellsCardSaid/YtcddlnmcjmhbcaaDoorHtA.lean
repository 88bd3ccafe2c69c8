/-
  Joined texts: ShK1 HiD HiP HiQ HiR HtD HtR.
-/
import Derived.Test.YtcddlnmcjmhbcaaDoorRgA
import Derived.Test.YtcddlnmcjmhbcaaDoorRgG
/-
  The checker's machine: where a thread may go, what is to come of its attempt, and that versions rise. Nothing of the program.
-/
namespace Go.Proofs.YtcddlnmcjmhbcaaDoor
set_option linter.unusedVariables false

/-- Where an event takes its thread. -/
def Moves (k a b : Int) : Prop :=
  (k = 1 ∧ a = 0 ∧ b = 1) ∨ (k = 2 ∧ a = 1 ∧ b = 2) ∨ (k = 3 ∧ a = 2 ∧ b = 1) ∨ (k = 4 ∧ (a = 1 ∨ a = 3) ∧ b = 3) ∨ (k = 5 ∧ a = 3 ∧ b = 4) ∨ (k = 6 ∧ a = 4 ∧ b = 4) ∨
  (k = 7 ∧ ((a = 1 ∧ b = 0) ∨ (a = 4 ∧ b = 5))) ∨ (k = 8 ∧ a = 5 ∧ b = 5) ∨ (k = 9 ∧ (a = 5 ∨ a = 6) ∧ (b = 0 ∨ b = 6)) ∨ (k = 10 ∧ 1 ≤ a ∧ a ≤ 4 ∧ (b = 0 ∨ b = 7)) ∨
  (k = 11 ∧ a = 7 ∧ (b = 7 ∨ b = 0 ∨ b = 9)) ∨ (k = 12 ∧ a = 1 ∧ b = 8) ∨ (k = 13 ∧ a = 8 ∧ b = 0)
theorem fits_at {s : Sh} {t : Th} {e : Ev} (h : fitsS s t e = true) : 1 ≤ t.at_ ∧ t.at_ ≤ 4 := by
  unfold fitsS at h
  split at h
  · simp only [Bool.and_eq_true, decide_eq_true_eq] at h; omega
  split at h
  · simp only [decide_eq_true_eq] at h; omega
  split at h
  · simp only [decide_eq_true_eq] at h; omega
  split at h
  · simp only [Bool.and_eq_true, decide_eq_true_eq] at h; omega
  split at h
  · simp only [Bool.and_eq_true, decide_eq_true_eq] at h; omega
  split at h
  · simp only [decide_eq_true_eq] at h; omega
  · cases h

theorem at_step {s s' : Sh} {e : Ev} (hw : Wf s) (h : stepS s e = some s') : ∃ (th : Nat) (t' : Th), e.th = (th : Int) ∧ th < s.ths.length ∧ s'.ths = s.ths.set th t' ∧ s'.vars = s.vars ∧ s'.sts.length = s.sts.length ∧
    Moves e.kind (s.ths.getD th Th.zero).at_ t'.at_ ∧ (e.kind ≠ 7 → e.kind ≠ 9 → t'.commits = (s.ths.getD th Th.zero).commits) ∧ s.clock ≤ s'.clock := by
  obtain ⟨th, hthe, htn, hlt, hm, hk, hat, hatS, hmod, hv, hd⟩ := stepS_inv hw h
  have R : ∀ (q : Sh) (t' : Th), q.ths = s.ths → (q.setTh e.th t').ths = s.ths.set th t' := by intro q t' h1; simp only [Sh.setTh, h1, htn]
  refine ⟨th, ?_⟩
  generalize s.ths.getD th Th.zero = t at hd ⊢
  unfold doesS at hd
  by_cases k1 : e.kind = 1
  · rw [if_pos k1] at hd
    unfold beginS at hd; split at hd
    case isFalse => cases hd
    rename_i hc
    cases hd
    exact ⟨_, hthe, hlt, R _ _ rfl, rfl, rfl, Or.inl ⟨k1, hc.1, rfl⟩, fun _ _ => rfl, hc.2.2⟩
  rw [if_neg k1] at hd
  by_cases k2 : e.kind = 2
  · rw [if_pos k2] at hd
    unfold lookS at hd; split at hd
    case isFalse => cases hd
    rename_i hc
    cases hd
    exact ⟨_, hthe, hlt, R _ _ rfl, rfl, by simp [Sh.setTh, Sh.setSt], Or.inr (Or.inl ⟨k2, hc.1, rfl⟩), fun _ _ => rfl, Int.le_refl _⟩
  rw [if_neg k2] at hd
  by_cases k3 : e.kind = 3
  · rw [if_pos k3] at hd
    unfold loadS at hd; split at hd
    case isFalse => cases hd
    rename_i hc
    cases hd
    exact ⟨_, hthe, hlt, R _ _ rfl, rfl, rfl, Or.inr (Or.inr (Or.inl ⟨k3, hc.1, rfl⟩)), fun _ _ => rfl, Int.le_refl _⟩
  rw [if_neg k3] at hd
  by_cases k4 : e.kind = 4
  · rw [if_pos k4] at hd
    unfold lockS at hd; split at hd
    case isFalse => cases hd
    rename_i hc
    cases hd
    exact ⟨_, hthe, hlt, R _ _ rfl, rfl, by simp [Sh.setTh, Sh.setSt], Or.inr (Or.inr (Or.inr (Or.inl ⟨k4, hc.1, rfl⟩))), fun _ _ => rfl, Int.le_refl _⟩
  rw [if_neg k4] at hd
  by_cases k5 : e.kind = 5
  · rw [if_pos k5] at hd
    unfold bumpS at hd; split at hd
    case isFalse => cases hd
    rename_i hc
    cases hd
    exact ⟨_, hthe, hlt, R { s with clock := e.v } _ rfl, rfl, rfl, Or.inr (Or.inr (Or.inr (Or.inr (Or.inl ⟨k5, hc.1, rfl⟩)))), fun _ _ => rfl, Int.le_of_lt hc.2⟩
  rw [if_neg k5] at hd
  by_cases k6 : e.kind = 6
  · rw [if_pos k6] at hd
    unfold checkS at hd; split at hd
    case isFalse => cases hd
    rename_i hc
    cases hd
    exact ⟨_, hthe, hlt, R _ _ rfl, rfl, rfl, Or.inr (Or.inr (Or.inr (Or.inr (Or.inr (Or.inl ⟨k6, hc.1, hc.1⟩))))), fun _ _ => rfl, Int.le_refl _⟩
  rw [if_neg k6] at hd
  by_cases k7 : e.kind = 7
  · rw [if_pos k7] at hd
    unfold commitS at hd; split at hd
    · rename_i hc
      cases hd
      exact ⟨_, hthe, hlt, R _ _ rfl, rfl, rfl, Or.inr (Or.inr (Or.inr (Or.inr (Or.inr (Or.inr (Or.inl ⟨k7, Or.inl ⟨hc.2, rfl⟩⟩)))))), fun h7 => absurd k7 h7, Int.le_refl _⟩
    split at hd
    · rename_i hc
      cases hd
      exact ⟨_, hthe, hlt, R _ _ rfl, rfl, rfl, Or.inr (Or.inr (Or.inr (Or.inr (Or.inr (Or.inr (Or.inl ⟨k7, Or.inr ⟨hc.2.1, rfl⟩⟩)))))), fun h7 => absurd k7 h7, Int.le_refl _⟩
    cases hd
  rw [if_neg k7] at hd
  by_cases k8 : e.kind = 8
  · rw [if_pos k8] at hd
    unfold storeS at hd; split at hd
    case isFalse => cases hd
    rename_i hc
    cases hd
    exact ⟨_, hthe, hlt, R _ _ rfl, rfl, rfl, Or.inr (Or.inr (Or.inr (Or.inr (Or.inr (Or.inr (Or.inr (Or.inl ⟨k8, hc.1, hc.1⟩))))))), fun _ _ => rfl, Int.le_refl _⟩
  rw [if_neg k8] at hd
  by_cases k9 : e.kind = 9
  · rw [if_pos k9] at hd
    unfold freedS at hd; split at hd
    case isFalse => cases hd
    rename_i hc
    cases hd
    exact ⟨_, hthe, hlt, R _ _ rfl, rfl, by simp [Sh.setTh, Sh.setSt], Or.inr (Or.inr (Or.inr (Or.inr (Or.inr (Or.inr (Or.inr (Or.inr (Or.inl ⟨k9, by omega, by split; exact Or.inl rfl; exact Or.inr rfl⟩)))))))), fun _ h9 => absurd k9 h9, Int.le_refl _⟩
  rw [if_neg k9] at hd
  by_cases k10 : e.kind = 10
  · rw [if_pos k10] at hd
    unfold abortS at hd; split at hd
    case isFalse => cases hd
    rename_i hc
    cases hd
    have := fits_at hc
    exact ⟨_, hthe, hlt, R _ _ rfl, rfl, rfl, Or.inr (Or.inr (Or.inr (Or.inr (Or.inr (Or.inr (Or.inr (Or.inr (Or.inr (Or.inl ⟨k10, this.1, this.2, by simp only; split; exact Or.inl rfl; exact Or.inr rfl⟩))))))))), fun _ _ => rfl, Int.le_refl _⟩
  rw [if_neg k10] at hd
  by_cases k11 : e.kind = 11
  · rw [if_pos k11] at hd
    unfold undoS at hd; split at hd
    case isFalse => cases hd
    rename_i hc
    cases hd
    exact ⟨_, hthe, hlt, R _ _ rfl, rfl, by simp [Sh.setTh, Sh.setSt], Or.inr (Or.inr (Or.inr (Or.inr (Or.inr (Or.inr (Or.inr (Or.inr (Or.inr (Or.inr (Or.inl ⟨k11, hc.1, by simp only; (repeat' split) <;> simp⟩)))))))))), fun _ _ => rfl, Int.le_refl _⟩
  rw [if_neg k11] at hd
  by_cases k12 : e.kind = 12
  · rw [if_pos k12] at hd
    unfold waitS at hd; split at hd
    case isFalse => cases hd
    rename_i hc
    cases hd
    exact ⟨_, hthe, hlt, R _ _ rfl, rfl, rfl, Or.inr (Or.inr (Or.inr (Or.inr (Or.inr (Or.inr (Or.inr (Or.inr (Or.inr (Or.inr (Or.inr (Or.inl ⟨k12, hc, rfl⟩))))))))))), fun _ _ => rfl, Int.le_refl _⟩
  rw [if_neg k12] at hd
  unfold wakeS at hd; split at hd
  case isFalse => cases hd
  rename_i hc
  cases hd
  exact ⟨_, hthe, hlt, R _ _ rfl, rfl, rfl, Or.inr (Or.inr (Or.inr (Or.inr (Or.inr (Or.inr (Or.inr (Or.inr (Or.inr (Or.inr (Or.inr (Or.inr (⟨by omega, hc.1, rfl⟩)))))))))))), fun _ _ => rfl, Int.le_refl _⟩

/-- Does what is to come abort the thread's attempt, or end it in a wait? -/
def goneR (th : Int) : List Ev → Bool
  | [] => false
  | e :: l => if e.th = th ∧ (e.kind = 1 ∨ e.kind = 10 ∨ e.kind = 12) then decide (e.kind ≠ 1) else goneR th l
theorem goneR_cons (th : Int) (e : Ev) (l : List Ev) : goneR th (e :: l) = if e.th = th ∧ (e.kind = 1 ∨ e.kind = 10 ∨ e.kind = 12) then decide (e.kind ≠ 1) else goneR th l := rfl
theorem goneR_other {th : Int} {e : Ev} {l : List Ev} (h : e.th ≠ th) : goneR th (e :: l) = goneR th l := by rw [goneR_cons, if_neg (by intro h'; exact h h'.1)]
theorem goneR_mid {th : Int} {e : Ev} {l : List Ev} (h1 : e.kind ≠ 1) (h10 : e.kind ≠ 10) (h12 : e.kind ≠ 12) : goneR th (e :: l) = goneR th l := by rw [goneR_cons, if_neg (by omega)]
theorem goneR_yes {th : Int} {e : Ev} {l : List Ev} (h : e.th = th) (hk : e.kind = 10 ∨ e.kind = 12) : goneR th (e :: l) = true := by
  rw [goneR_cons, if_pos ⟨h, by omega⟩, decide_eq_true_eq]; omega
theorem goneR_begin {th : Int} {e : Ev} {l : List Ev} (h : e.th = th) (hk : e.kind = 1) : goneR th (e :: l) = false := by
  rw [goneR_cons, if_pos ⟨h, by omega⟩, decide_eq_false_iff_not]; omega
/-- Who has committed, or is in no attempt, is not gone. -/
theorem goneR_no : ∀ (l : List Ev) {s s' : Sh} {i : Nat}, Wf s → runS s l = some s' → i < s.ths.length → ((s.ths.getD i Th.zero).at_ = 0 ∨ (s.ths.getD i Th.zero).at_ = 5 ∨ (s.ths.getD i Th.zero).at_ = 6) → goneR i l = false
  | [], _, _, _, _, _, _, _ => rfl
  | e :: l, s, s', i, hw, h, hi, ha => by
    unfold runS at h
    cases hs : stepS s e with
    | none => rw [hs] at h; cases h
    | some r =>
      rw [hs] at h
      obtain ⟨th, t', e1, e2, e3, -, -, hm, -⟩ := at_step hw hs
      have hw' := stepS_wf hw hs
      have hlen : r.ths.length = s.ths.length := by rw [e3, List.length_set]
      by_cases hti : th = i
      · subst hti
        by_cases k1 : e.kind = 1
        · exact goneR_begin e1 k1
        · unfold Moves at hm
          rw [goneR_mid k1 (by omega) (by omega)]
          refine goneR_no l hw' h (by omega) ?_
          rw [e3, getD_set_eq _ _ _ _ e2]
          omega
      · rw [goneR_other (by omega)]
        refine goneR_no l hw' h (by omega) ?_
        rw [e3, getD_set_ne _ _ _ _ _ hti]; exact ha
/-- The flags: whose attempt is of those that go. -/
def FlagS (s : Sh) (f : Nat → Bool) (l : List Ev) : Prop :=
  ∀ i, i < s.ths.length → (f i = false → goneR i l = false ∧ (s.ths.getD i Th.zero).at_ ≤ 6) ∧
    (f i = true → (1 ≤ (s.ths.getD i Th.zero).at_ → (s.ths.getD i Th.zero).at_ ≤ 4 → goneR i l = true) ∧ (s.ths.getD i Th.zero).at_ ≠ 5 ∧ (s.ths.getD i Th.zero).at_ ≠ 6)
def nextF (f : Nat → Bool) (e : Ev) (l : List Ev) : Nat → Bool := fun i => if e.kind = 1 ∧ e.th = (i : Int) then goneR i l else f i
theorem nextF_same {f : Nat → Bool} {e : Ev} {l : List Ev} (h : e.kind ≠ 1) : nextF f e l = f := by funext i; unfold nextF; rw [if_neg (by intro h'; exact h h'.1)]
theorem nextF_ne {f : Nat → Bool} {e : Ev} {l : List Ev} {i : Nat} (h : e.th ≠ (i : Int)) : nextF f e l i = f i := by unfold nextF; rw [if_neg (by intro h'; exact h h'.2)]
theorem FlagS.step {s r s' : Sh} {f : Nat → Bool} {e : Ev} {l : List Ev} (hw : Wf s) (hf : FlagS s f (e :: l)) (hs : stepS s e = some r) (h : runS r l = some s') :
    FlagS r (nextF f e l) l ∧ (nextF f e l e.th.toNat = false → e.kind ≠ 10 ∧ e.kind ≠ 11 ∧ e.kind ≠ 12 ∧ e.kind ≠ 13) ∧ (nextF f e l e.th.toNat = true → e.kind ≠ 7 ∧ e.kind ≠ 8 ∧ e.kind ≠ 9) := by
  obtain ⟨th, t', e1, e2, e3, -, -, hm, -⟩ := at_step hw hs
  have hw' := stepS_wf hw hs
  have hlen : r.ths.length = s.ths.length := by rw [e3, List.length_set]
  have htn : e.th.toNat = th := by omega
  obtain ⟨h1, h2⟩ := hf th e2
  have hno := fun (hx : t'.at_ = 0 ∨ t'.at_ = 5 ∨ t'.at_ = 6) => goneR_no l (i := th) hw' h (by omega) (by rw [e3, getD_set_eq _ _ _ _ e2]; exact hx)
  rw [htn]
  -- the thread's own flag
  have key : ((nextF f e l th = false → goneR th l = false ∧ t'.at_ ≤ 6) ∧ (nextF f e l th = true → (1 ≤ t'.at_ → t'.at_ ≤ 4 → goneR th l = true) ∧ t'.at_ ≠ 5 ∧ t'.at_ ≠ 6)) ∧
      (nextF f e l th = false → e.kind ≠ 10 ∧ e.kind ≠ 11 ∧ e.kind ≠ 12 ∧ e.kind ≠ 13) ∧ (nextF f e l th = true → e.kind ≠ 7 ∧ e.kind ≠ 8 ∧ e.kind ≠ 9) := by
    by_cases k1 : e.kind = 1
    · have hn : nextF f e l th = goneR th l := by unfold nextF; rw [if_pos ⟨k1, e1⟩]
      rw [hn]
      unfold Moves at hm
      refine ⟨⟨fun hx => ⟨hx, by omega⟩, fun hx => ⟨fun _ _ => hx, by omega, by omega⟩⟩, fun _ => by omega, fun _ => by omega⟩
    · rw [nextF_same k1]
      cases hfi : f th with
      | false =>
        obtain ⟨a1, a2⟩ := h1 hfi
        have k10 : e.kind ≠ 10 := by intro hk; rw [goneR_yes e1 (Or.inl hk)] at a1; cases a1
        have k12 : e.kind ≠ 12 := by intro hk; rw [goneR_yes e1 (Or.inr hk)] at a1; cases a1
        rw [goneR_mid k1 k10 k12] at a1
        unfold Moves at hm
        refine ⟨⟨fun _ => ⟨a1, by omega⟩, by simp⟩, fun _ => by omega, by simp⟩
      | true =>
        obtain ⟨a1, a2, a3⟩ := h2 hfi
        unfold Moves at hm
        by_cases k7 : e.kind = 7
        · have := a1 (by omega) (by omega)
          rw [goneR_mid k1 (by omega) (by omega)] at this
          rw [hno (by omega)] at this; cases this
        · refine ⟨⟨by simp, fun _ => ⟨fun b1 b2 => ?_, by omega, by omega⟩⟩, by simp, fun _ => by omega⟩
          have := a1 (by omega) (by omega)
          rwa [goneR_mid k1 (by omega) (by omega)] at this
  refine ⟨fun i hi => ?_, key.2.1, key.2.2⟩
  rw [hlen] at hi
  by_cases hti : th = i
  · subst hti
    rw [e3, getD_set_eq _ _ _ _ e2]
    exact key.1
  · rw [e3, getD_set_ne _ _ _ _ _ hti, nextF_ne (by omega)]
    have := hf i hi
    rwa [goneR_other (by omega)] at this
end Go.Proofs.YtcddlnmcjmhbcaaDoor
/-
  Attempts as data: what a history of events is, step by step; and what holds of it beside the checker's machine. Nothing of the program.
-/
namespace Go.Proofs.YtcddlnmcjmhbcaaDoor
set_option linter.unusedVariables false
set_option linter.unusedSimpArgs false
set_option linter.unusedVariables false

/-! ### Counting bits -/
def cntb (m : Nat) : Nat := (List.range 32).countP fun i => m.testBit i
theorem countP_or (p : Nat → Bool) (s : Nat) (h : p s = false) : ∀ n, (List.range n).countP (fun i => p i || decide (s = i)) = (List.range n).countP p + if s < n then 1 else 0
  | 0 => by simp
  | n + 1 => by
    rw [List.range_succ, List.countP_append, List.countP_append, countP_or p s h n]
    simp only [List.countP_cons, List.countP_nil]
    by_cases he : s = n
    · subst he
      rw [h]
      simp
    · simp only [he, decide_false, Bool.or_false]
      by_cases hl : s < n
      · rw [if_pos hl, if_pos (show s < n + 1 by omega)]; omega
      · rw [if_neg hl, if_neg (show ¬ s < n + 1 by omega)]; omega
theorem countP_and (p : Nat → Bool) (s : Nat) (h : p s = true) : ∀ n, (List.range n).countP (fun i => p i && !decide (s = i)) + (if s < n then 1 else 0) = (List.range n).countP p
  | 0 => by simp
  | n + 1 => by
    have ih := countP_and p s h n
    rw [List.range_succ, List.countP_append, List.countP_append]
    simp only [List.countP_cons, List.countP_nil]
    by_cases he : s = n
    · subst he
      rw [h]
      rw [if_neg (by omega)] at ih
      simp
      omega
    · simp only [he, decide_false, Bool.not_false, Bool.and_true]
      by_cases hl : s < n
      · rw [if_pos hl] at ih; rw [if_pos (show s < n + 1 by omega)]; omega
      · rw [if_neg hl] at ih; rw [if_neg (show ¬ s < n + 1 by omega)]; omega
theorem cntb_set {m s : Nat} (h : m.testBit s = false) (hs : s < 32) : cntb (setb m s) = cntb m + 1 := by
  unfold cntb
  simp only [testBit_setb]
  rw [countP_or (fun i => m.testBit i) s h 32, if_pos hs]
theorem cntb_clr {m s : Nat} (h : m.testBit s = true) (hs : s < 32) : cntb (clrb m s) + 1 = cntb m := by
  unfold cntb
  simp only [testBit_clrb]
  have := countP_and (fun i => m.testBit i) s h 32
  rw [if_pos hs] at this
  exact this
theorem cntb_zero {m : Nat} (hm : m < 4294967296) : cntb m = 0 ↔ m = 0 := by
  constructor
  · intro h
    unfold cntb at h
    rw [List.countP_eq_zero] at h
    refine zero_of_testBit hm fun i hi => ?_
    have := h i (List.mem_range.2 hi)
    simpa using this
  · rintro rfl
    unfold cntb
    rw [List.countP_eq_zero]
    intro i _
    simp

/-! ### Attempts -/
structure Att where
  th : Int
  tx : Int
  from_ : Int
  to_ : Int
  rv : Int
  wv : Int
  com : Bool
  reads : List (Int × Int)
  writes : List (Int × Int)
def Att.zero : Att := ⟨0, 0, 0, 0, 0, 0, false, [], []⟩
structure HS where
  last : Int → Nat
  out : List Att
  owned : List Int
def newA (e : Ev) (i : Int) : Att := ⟨e.th, e.tx, i, -1, e.v, 0, false, [], []⟩
/-- What an event (no Begin, no Wake) makes of its attempt. -/
def turnA (a : Att) (o : Int) (e : Ev) (i : Int) : Att :=
  if e.kind = 3 then { a with reads := a.reads ++ [(e.at_, e.x)] }
  else if e.kind = 8 then { a with writes := a.writes ++ [(e.at_, e.x)] }
  else if e.kind = 7 then { a with com := true, wv := e.v, to_ := if o = 0 then i else a.to_ }
  else if e.kind = 9 ∨ e.kind = 11 then { a with to_ := if o - 1 = 0 then i else a.to_ }
  else if e.kind = 10 then { a with to_ := if o = 0 then i else a.to_ }
  else if e.kind = 12 then { a with to_ := i }
  else a
def turnO (o : Int) (e : Ev) : Int := if e.kind = 4 then o + 1 else if e.kind = 9 ∨ e.kind = 11 then o - 1 else o
def updN (f : Int → Nat) (i : Int) (x : Nat) : Int → Nat := fun j => if j = i then x else f j
def stepH (h : HS) (i : Int) (e : Ev) : HS :=
  if e.kind = 1 then ⟨updN h.last e.th h.out.length, h.out ++ [newA e i], h.owned ++ [0]⟩
  else if e.kind = 13 then h
  else ⟨h.last, h.out.set (h.last e.th) (turnA (h.out.getD (h.last e.th) Att.zero) (h.owned.getD (h.last e.th) 0) e i), h.owned.set (h.last e.th) (turnO (h.owned.getD (h.last e.th) 0) e)⟩
/-- Of which attempt an event is; -1: of none. -/
def ofH (h : HS) (e : Ev) : Int := if e.kind = 1 then h.out.length else if e.kind = 13 then -1 else h.last e.th
def newH : HS := ⟨fun _ => 0, [], []⟩
def histF (h : HS) (i : Int) : List Ev → HS
  | [] => h
  | e :: l => histF (stepH h i e) (i + 1) l
def ofF (h : HS) (i : Int) : List Ev → List Int
  | [] => []
  | e :: l => ofH h e :: ofF (stepH h i e) (i + 1) l
theorem histF_snoc (e : Ev) : ∀ (l : List Ev) (h : HS) (i : Int), histF h i (l ++ [e]) = stepH (histF h i l) (i + l.length) e
  | [], h, i => by simp [histF]
  | x :: l, h, i => by
    show histF (stepH h i x) (i + 1) (l ++ [e]) = _
    rw [histF_snoc e l]
    simp only [List.length_cons]
    show _ = stepH (histF (stepH h i x) (i + 1) l) _ e
    congr 1
    omega
theorem ofF_snoc (e : Ev) : ∀ (l : List Ev) (h : HS) (i : Int), ofF h i (l ++ [e]) = ofF h i l ++ [ofH (histF h i l) e]
  | [], h, i => rfl
  | x :: l, h, i => by
    show ofH h x :: ofF (stepH h i x) (i + 1) (l ++ [e]) = _
    rw [ofF_snoc e l]
    rfl
theorem ofF_len : ∀ (l : List Ev) (h : HS) (i : Int), (ofF h i l).length = l.length
  | [], h, i => rfl
  | x :: l, h, i => by
    show (ofF (stepH h i x) (i + 1) l).length + 1 = _
    rw [ofF_len l]; rfl
def histT (l : List Ev) : HS := histF newH 0 l
def ofT (l : List Ev) : List Int := ofF newH 0 l
theorem histT_step {l : List Ev} {k : Nat} (hk : k < l.length) : histT (l.take (k + 1)) = stepH (histT (l.take k)) k l[k] := by
  have e : l.take (k + 1) = l.take k ++ [l[k]] := by rw [List.take_succ_eq_append_getElem hk]
  unfold histT
  rw [e, histF_snoc, List.length_take, Nat.min_eq_left (Nat.le_of_lt hk), Int.zero_add]
theorem ofT_step {l : List Ev} {k : Nat} (hk : k < l.length) : ofT (l.take (k + 1)) = ofT (l.take k) ++ [ofH (histT (l.take k)) l[k]] := by
  have e : l.take (k + 1) = l.take k ++ [l[k]] := by rw [List.take_succ_eq_append_getElem hk]
  unfold ofT histT
  rw [e, ofF_snoc]
end Go.Proofs.YtcddlnmcjmhbcaaDoor
/-
  Attempts beside the checker's machine: what holds behind every event. Nothing of the program.
-/
namespace Go.Proofs.YtcddlnmcjmhbcaaDoor
set_option linter.unusedVariables false
set_option linter.unusedSimpArgs false
set_option linter.unusedVariables false

def Rising (l : List (Int × Int)) : Prop := l.Pairwise fun p q => p.1 < q.1
/-- What holds of an attempt. -/
structure AttOk (T V clk n : Int) (a : Att) : Prop where
  th : 0 ≤ a.th ∧ a.th < T
  tx : 0 ≤ a.tx
  from_ : 0 ≤ a.from_ ∧ a.from_ < n
  to_ : a.to_ = -1 ∨ (a.from_ ≤ a.to_ ∧ a.to_ < n)
  rv : 0 ≤ a.rv ∧ a.rv ≤ clk
  wv : 0 ≤ a.wv ∧ a.wv ≤ clk
  gt : a.wv ≠ 0 → a.rv < a.wv
  nc : a.com = false → a.wv = 0
  nw : a.wv = 0 → a.writes = []
  rds : ∀ p ∈ a.reads, 0 ≤ p.1 ∧ p.1 < V
  wrs : ∀ p ∈ a.writes, 0 ≤ p.1 ∧ p.1 < V
  up : Rising a.writes
theorem AttOk.mono {T V c c' n n' : Int} {a : Att} (h : AttOk T V c n a) (hc : c ≤ c') (hn : n ≤ n') : AttOk T V c' n' a :=
  ⟨h.th, h.tx, by have := h.from_; omega, by have := h.to_; omega, by have := h.rv; omega, by have := h.wv; omega, h.gt, h.nc, h.nw, h.rds, h.wrs, h.up⟩
/-- A thread, and its last attempt. -/
structure HT (t : Th) (a : Att) (o : Int) : Prop where
  o : o = cntb t.owned
  rv : a.rv = t.rv
  run : t.at_ = 1 ∨ t.at_ = 2 ∨ t.at_ = 3 ∨ t.at_ = 4 ∨ t.at_ = 7 → a.to_ = -1 ∧ a.com = false ∧ t.commits = a.tx
  put : t.at_ = 5 ∨ t.at_ = 6 → a.to_ = -1 ∧ a.com = true ∧ a.wv = t.wv ∧ a.wv ≠ 0 ∧ t.commits = a.tx
  var : t.at_ = 5 → ∀ p ∈ a.writes, p.1 ≤ t.var
  done : t.at_ = 0 → a.to_ ≠ -1 ∧ t.commits = a.tx + if a.com = true then 1 else 0
  stop : t.at_ = 8 ∨ t.at_ = 9 → a.to_ ≠ -1 ∧ a.com = false ∧ t.commits = a.tx
structure HI (s : Sh) (h : HS) (n : Int) : Prop where
  len : h.owned.length = h.out.length
  pos : 0 ≤ n
  att : ∀ (k : Nat) (a : Att), h.out[k]? = some a → AttOk s.ths.length s.vars s.clock n a
  pair : ∀ (j k : Nat) (a b : Att), j < k → h.out[j]? = some a → h.out[k]? = some b → a.from_ < b.from_ ∧ a.rv ≤ b.rv ∧ (a.to_ ≠ -1 → a.to_ < b.from_ → a.wv ≤ b.rv) ∧ (b.wv ≠ 0 → a.wv ≠ b.wv) ∧ (a.th = b.th → a.to_ ≠ -1 ∧ a.to_ < b.from_)
  row : ∀ (j k : Nat) (a b : Att), j < k → h.out[j]? = some a → h.out[k]? = some b → a.th = b.th → (∀ (m : Nat) (c : Att), j < m → m < k → h.out[m]? = some c → c.th ≠ b.th) → b.tx = a.tx + if a.com = true then 1 else 0
  row0 : ∀ (k : Nat) (b : Att), h.out[k]? = some b → (∀ (j : Nat) (a : Att), j < k → h.out[j]? = some a → a.th ≠ b.th) → b.tx = 0
  thr : ∀ i, i < s.ths.length → ((∀ (m : Nat) (c : Att), h.out[m]? = some c → c.th ≠ (i : Int)) ∧ (s.ths.getD i Th.zero).at_ = 0 ∧ (s.ths.getD i Th.zero).commits = 0) ∨
    ∃ a o, h.out[h.last i]? = some a ∧ h.owned[h.last i]? = some o ∧ a.th = (i : Int) ∧ (∀ (m : Nat) (c : Att), h.last i < m → h.out[m]? = some c → c.th ≠ (i : Int)) ∧ HT (s.ths.getD i Th.zero) a o
  pend : ∀ i, i < s.ths.length → (s.ths.getD i Th.zero).at_ = 4 → ((s.ths.getD i Th.zero).wv ≠ 0 ∧ (s.ths.getD i Th.zero).rv < (s.ths.getD i Th.zero).wv) ∧ (∀ (k : Nat) (a : Att), h.out[k]? = some a → a.wv ≠ (s.ths.getD i Th.zero).wv) ∧
    (∀ j, j < s.ths.length → j ≠ i → (s.ths.getD j Th.zero).at_ = 4 → (s.ths.getD j Th.zero).wv ≠ (s.ths.getD i Th.zero).wv)

theorem getElem?_set_cases {α : Type} {l : List α} {k j : Nat} {x y : α} (h : (l.set k x)[j]? = some y) : (j = k ∧ y = x ∧ k < l.length) ∨ (j ≠ k ∧ l[j]? = some y) := by
  rw [List.getElem?_set] at h
  split at h
  · rename_i he
    split at h
    · cases h; exact .inl ⟨he.symm, rfl, by assumption⟩
    · cases h
  · rename_i he
    exact .inr ⟨fun e => he e.symm, h⟩
theorem getElem?_snoc_cases {α : Type} {l : List α} {j : Nat} {x y : α} (h : (l ++ [x])[j]? = some y) : (j = l.length ∧ y = x) ∨ (j < l.length ∧ l[j]? = some y) := by
  rcases Nat.lt_trichotomy j l.length with hl | he | hg
  · rw [List.getElem?_append_left hl] at h; exact .inr ⟨hl, h⟩
  · subst he
    rw [List.getElem?_append_right (Nat.le_refl _), Nat.sub_self] at h
    cases h; exact .inl ⟨rfl, rfl⟩
  · rw [List.getElem?_eq_none (by simp; omega)] at h; cases h

/-- An event turns its attempt. -/
theorem HI.turn {s s' : Sh} {h : HS} {n : Int} (hi : HI s h n) {th : Nat} {t' : Th} {a a' : Att} {o' : Int} (hlt : th < s.ths.length) (hths : s'.ths = s.ths.set th t') (hclk : s.clock ≤ s'.clock) (hv : s'.vars = s.vars)
    (ha : h.out[h.last th]? = some a) (hath : a.th = (th : Int)) (hlast : ∀ (m : Nat) (c : Att), h.last th < m → h.out[m]? = some c → c.th ≠ (th : Int))
    (same : a'.th = a.th ∧ a'.tx = a.tx ∧ a'.from_ = a.from_ ∧ a'.rv = a.rv) (hto : a.to_ = -1 ∧ (a'.to_ = -1 ∨ a'.to_ = n))
    (hwv : a'.wv = a.wv ∨ ((s.ths.getD th Th.zero).at_ = 4 ∧ a'.wv = (s.ths.getD th Th.zero).wv ∧ t'.at_ ≠ 4))
    (hok : AttOk s.ths.length s.vars s'.clock (n + 1) a') (hHT : HT t' a' o')
    (hp : t'.at_ = 4 → t'.rv = (s.ths.getD th Th.zero).rv ∧ (((s.ths.getD th Th.zero).at_ = 4 ∧ t'.wv = (s.ths.getD th Th.zero).wv) ∨ s.clock < t'.wv))
    (hrv : (s.ths.getD th Th.zero).rv ≤ s.clock) (hc0 : 0 ≤ s.clock) (hwvs : ∀ i, i < s.ths.length → (s.ths.getD i Th.zero).wv ≤ s.clock) :
    HI s' ⟨h.last, h.out.set (h.last th) a', h.owned.set (h.last th) o'⟩ (n + 1) := by
  obtain ⟨s1, s2, s3, s4⟩ := same
  have hkl : h.last th < h.out.length := (List.getElem?_eq_some_iff.1 ha).1
  have hT : s'.ths.length = s.ths.length := by rw [hths, List.length_set]
  have gEq : s'.ths.getD th Th.zero = t' := by rw [hths]; exact getD_set_eq _ _ _ _ hlt
  have gNe : ∀ i, i ≠ th → s'.ths.getD i Th.zero = s.ths.getD i Th.zero := fun i hne => by rw [hths]; exact getD_set_ne _ _ _ _ _ (fun e => hne e.symm)
  have hfr := (hi.att _ _ ha).from_
  constructor
  · show (h.owned.set _ _).length = (h.out.set _ _).length
    rw [List.length_set, List.length_set]; exact hi.len
  · have := hi.pos; omega
  · intro k b hb
    rw [hT, hv]
    have hb_ := getElem?_set_cases hb; clear hb
    rcases hb_ with ⟨rfl, rfl, _⟩ | ⟨_, hb⟩
    · exact hok
    · exact (hi.att _ _ hb).mono hclk (by omega)
  · intro j k b c hjk hb hc
    have hb_ := getElem?_set_cases hb; clear hb
    rcases hb_ with ⟨rfl, rfl, _⟩ | ⟨hne, hb⟩
    · have hc_ := getElem?_set_cases hc; clear hc
      rcases hc_ with ⟨rfl, rfl, _⟩ | ⟨_, hc⟩
      · omega
      · obtain ⟨p1, p2, p3, p4, p5⟩ := hi.pair _ _ _ _ hjk ha hc
        have hcf := (hi.att _ _ hc).from_
        have hthc : c.th ≠ (th : Int) := hlast _ _ hjk hc
        refine ⟨by rw [s3]; exact p1, by rw [s4]; exact p2, fun h1 h2 => by omega, fun h1 => ?_, fun h1 => absurd (by rw [← h1, s1]; exact hath) hthc⟩
        rcases hwv with e | ⟨e1, e2, e3⟩
        · rw [e]; exact p4 h1
        · rw [e2]; exact fun e => ((hi.pend th hlt e1).2.1 _ _ hc) e.symm
    · have hc_ := getElem?_set_cases hc; clear hc
      rcases hc_ with ⟨rfl, rfl, _⟩ | ⟨_, hc⟩
      · obtain ⟨p1, p2, p3, p4, p5⟩ := hi.pair _ _ _ _ hjk hb ha
        refine ⟨by rw [s3]; exact p1, by rw [s4]; exact p2, by rw [s3, s4]; exact p3, fun h1 => ?_, by rw [s1, s3]; exact p5⟩
        rcases hwv with e | ⟨e1, e2, e3⟩
        · rw [e] at h1 ⊢; exact p4 h1
        · rw [e2]; exact (hi.pend th hlt e1).2.1 _ _ hb
      · exact hi.pair _ _ _ _ hjk hb hc
  · intro j k b c hjk hb hc hbc hm
    have hm' : ∀ (m : Nat) (d : Att), j < m → m < k → h.out[m]? = some d → d.th ≠ c.th := by
      intro m d h1 h2 hd
      by_cases he : m = h.last th
      · subst he
        rw [ha] at hd
        cases hd
        have := hm _ a' h1 h2 (by rw [List.getElem?_set_self hkl])
        rw [s1] at this
        exact this
      · exact hm _ _ h1 h2 (by rw [List.getElem?_set_ne (fun e => he e.symm)]; exact hd)
    have hb_ := getElem?_set_cases hb; clear hb
    rcases hb_ with ⟨rfl, rfl, _⟩ | ⟨hne, hb⟩
    · have hc_ := getElem?_set_cases hc; clear hc
      rcases hc_ with ⟨rfl, rfl, _⟩ | ⟨_, hc⟩
      · omega
      · exact absurd (by rw [← hbc, s1]; exact hath) (hlast _ _ hjk hc)
    · have hc_ := getElem?_set_cases hc; clear hc
      rcases hc_ with ⟨rfl, rfl, _⟩ | ⟨_, hc⟩
      · rw [s2]
        exact hi.row _ _ _ _ hjk hb ha (by rw [hbc, s1]) (by rw [s1] at hm'; exact hm')
      · exact hi.row _ _ _ _ hjk hb hc hbc hm'
  · intro k c hc hm
    have hm' : ∀ (j : Nat) (d : Att), j < k → h.out[j]? = some d → d.th ≠ c.th := by
      intro m d h1 hd
      by_cases he : m = h.last th
      · subst he
        rw [ha] at hd
        cases hd
        have := hm _ a' h1 (by rw [List.getElem?_set_self hkl])
        rw [s1] at this
        exact this
      · exact hm _ _ h1 (by rw [List.getElem?_set_ne (fun e => he e.symm)]; exact hd)
    have hc_ := getElem?_set_cases hc; clear hc
    rcases hc_ with ⟨rfl, rfl, _⟩ | ⟨_, hc⟩
    · rw [s2]; exact hi.row0 _ _ ha (by rw [s1] at hm'; exact hm')
    · exact hi.row0 _ _ hc hm'
  · intro i hil
    rw [hT] at hil
    by_cases he : i = th
    · subst he
      refine .inr ⟨a', o', List.getElem?_set_self hkl, List.getElem?_set_self (by rw [hi.len]; exact hkl), by rw [s1]; exact hath, ?_, by rw [gEq]; exact hHT⟩
      intro m c hm hc
      have hm : h.last (i : Int) < m := hm
      have hc_ := getElem?_set_cases hc; clear hc
      rcases hc_ with ⟨rfl, rfl, _⟩ | ⟨_, hc⟩
      · rw [s1]; omega
      · exact hlast _ _ hm hc
    · rw [gNe i he]
      have hsame : ∀ (m : Nat) (c : Att), (h.out.set (h.last th) a')[m]? = some c → ∃ c0, h.out[m]? = some c0 ∧ c0.th = c.th := by
        intro m c hc
        have hc_ := getElem?_set_cases hc; clear hc
        rcases hc_ with ⟨rfl, rfl, _⟩ | ⟨_, hc⟩
        · exact ⟨a, ha, s1.symm⟩
        · exact ⟨c, hc, rfl⟩
      rcases hi.thr i hil with ⟨h1, h2⟩ | ⟨b, o, h1, h2, h3, h4, h5⟩
      · refine .inl ⟨fun m c hc => ?_, h2⟩
        obtain ⟨c0, hc0, e⟩ := hsame m c hc
        rw [← e]; exact h1 _ _ hc0
      · have hne : h.last th ≠ h.last i := by
          intro e
          rw [← e, ha] at h1
          cases h1
          omega
        refine .inr ⟨b, o, by rw [List.getElem?_set_ne hne]; exact h1, by rw [List.getElem?_set_ne hne]; exact h2, h3, fun m c hm hc => ?_, h5⟩
        obtain ⟨c0, hc0, e⟩ := hsame m c hc
        rw [← e]; exact h4 _ _ hm hc0
  · intro i hil h4
    rw [hT] at hil
    have hwa : ∀ (k : Nat) (b : Att), (h.out.set (h.last th) a')[k]? = some b → (∃ b0, h.out[k]? = some b0 ∧ b0.wv = b.wv) ∨ ((s.ths.getD th Th.zero).at_ = 4 ∧ b.wv = (s.ths.getD th Th.zero).wv ∧ t'.at_ ≠ 4) := by
      intro k b hb
      have hb_ := getElem?_set_cases hb; clear hb
      rcases hb_ with ⟨rfl, rfl, _⟩ | ⟨_, hb⟩
      · rcases hwv with e | e
        · exact .inl ⟨a, ha, e.symm⟩
        · exact .inr e
      · exact .inl ⟨b, hb, rfl⟩
    by_cases he : i = th
    · subst he
      rw [gEq] at h4 ⊢
      obtain ⟨e1, e2⟩ := hp h4
      have hout : ∀ (k : Nat) (b : Att), (h.out.set (h.last i) a')[k]? = some b → ∃ b0, h.out[k]? = some b0 ∧ b0.wv = b.wv := fun k b hb => by
        rcases hwa k b hb with e | ⟨_, _, e⟩
        · exact e
        · exact absurd h4 e
      rcases e2 with ⟨f1, f2⟩ | f
      · obtain ⟨g1, g2, g3⟩ := hi.pend i hlt f1
        rw [e1, f2]
        refine ⟨g1, fun k b hb => ?_, fun j hj hji hj4 => ?_⟩
        · obtain ⟨b0, hb0, e⟩ := hout k b hb
          rw [← e]; exact g2 _ _ hb0
        · rw [hT] at hj
          rw [gNe j hji] at hj4 ⊢
          exact g3 j hj hji hj4
      · refine ⟨⟨by omega, by omega⟩, fun k b hb => ?_, fun j hj hji hj4 => ?_⟩
        · obtain ⟨b0, hb0, e⟩ := hout k b hb
          have := (hi.att _ _ hb0).wv
          omega
        · rw [hT] at hj
          rw [gNe j hji]
          have := hwvs j hj
          omega
    · rw [gNe i he] at h4 ⊢
      obtain ⟨g1, g2, g3⟩ := hi.pend i hil h4
      refine ⟨g1, fun k b hb => ?_, fun j hj hji hj4 => ?_⟩
      · rcases hwa k b hb with ⟨b0, hb0, e⟩ | ⟨f1, f2, f3⟩
        · rw [← e]; exact g2 _ _ hb0
        · rw [f2]; exact g3 th hlt (fun e => he e.symm) f1
      · rw [hT] at hj
        by_cases hj2 : j = th
        · subst hj2
          rw [gEq] at hj4 ⊢
          obtain ⟨_, ⟨f1, f2⟩ | f⟩ := hp hj4
          · rw [f2]; exact g3 j hj hji f1
          · have := hwvs i hil
            omega
        · rw [gNe j hj2] at hj4 ⊢
          exact g3 j hj hji hj4
/-- A Begin. -/
theorem HI.begin {s s' : Sh} {h : HS} {n : Int} (hi : HI s h n) {th : Nat} {t' : Th} {e : Ev} (hthe : e.th = (th : Int)) (hlt : th < s.ths.length) (hths : s'.ths = s.ths.set th t') (hclk : s'.clock = e.v) (hge : s.clock ≤ e.v) (hc0 : 0 ≤ s.clock) (hv : s'.vars = s.vars)
    (h0 : (s.ths.getD th Th.zero).at_ = 0) (htx : e.tx = (s.ths.getD th Th.zero).commits) (htx0 : 0 ≤ e.tx) (ht' : t' = ⟨1, (s.ths.getD th Th.zero).commits, e.v, 0, 0, 0, 0, 0, 0, 0, -1, -1, false⟩) :
    HI s' ⟨updN h.last e.th h.out.length, h.out ++ [newA e n], h.owned ++ [0]⟩ (n + 1) := by
  have hT : s'.ths.length = s.ths.length := by rw [hths, List.length_set]
  have gEq : s'.ths.getD th Th.zero = t' := by rw [hths]; exact getD_set_eq _ _ _ _ hlt
  have gNe : ∀ i, i ≠ th → s'.ths.getD i Th.zero = s.ths.getD i Th.zero := fun i hne => by rw [hths]; exact getD_set_ne _ _ _ _ _ (fun e => hne e.symm)
  have hpos := hi.pos
  have uEq : updN h.last e.th h.out.length (th : Int) = h.out.length := by unfold updN; rw [if_pos hthe.symm]
  have uNe : ∀ i : Nat, i ≠ th → updN h.last e.th h.out.length (i : Int) = h.last (i : Int) := fun i hne => by unfold updN; rw [if_neg (by omega)]
  -- an attempt of that thread ahead has ended
  have hended : ∀ (j : Nat) (a : Att), h.out[j]? = some a → a.th = (th : Int) → a.to_ ≠ -1 ∧ a.to_ < n := by
    intro j a ha hath
    rcases hi.thr th hlt with ⟨h1, _⟩ | ⟨b, o, h1, h2, h3, h4, h5⟩
    · exact absurd hath (h1 _ _ ha)
    · have hd := h5.done h0
      have hbk := hi.att _ _ h1
      rcases Nat.lt_trichotomy j (h.last th) with hl | he | hg
      · have hp := (hi.pair _ _ _ _ hl ha h1).2.2.2.2 (by rw [hath, h3])
        have := hbk.from_
        exact ⟨hp.1, by omega⟩
      · subst he
        rw [h1] at ha
        cases ha
        have := hbk.to_
        refine ⟨hd.1, ?_⟩
        rcases this with e | e
        · exact absurd e hd.1
        · exact e.2
      · exact absurd hath (h4 _ _ hg ha)
  constructor
  · show (h.owned ++ [0]).length = (h.out ++ [newA e n]).length
    rw [List.length_append, List.length_append, hi.len]; rfl
  · omega
  · intro k b hb
    rw [hT, hv, hclk]
    have hb_ := getElem?_snoc_cases hb; clear hb
    rcases hb_ with ⟨rfl, rfl⟩ | ⟨_, hb⟩
    · refine ⟨by show 0 ≤ e.th ∧ e.th < _; omega, htx0, by show 0 ≤ n ∧ n < n + 1; omega, .inl rfl, by show 0 ≤ e.v ∧ e.v ≤ e.v; omega, by show (0 : Int) ≤ 0 ∧ (0 : Int) ≤ e.v; omega, fun h => absurd rfl h, fun _ => rfl, fun _ => rfl, fun p hp => ?_, fun p hp => ?_, List.Pairwise.nil⟩
      · exact absurd hp (List.not_mem_nil)
      · exact absurd hp (List.not_mem_nil)
    · exact (hi.att _ _ hb).mono hge (by omega)
  · intro j k b c hjk hb hc
    have hc_ := getElem?_snoc_cases hc; clear hc
    rcases hc_ with ⟨rfl, rfl⟩ | ⟨hk, hc⟩
    · have hb_ := getElem?_snoc_cases hb; clear hb
      rcases hb_ with ⟨rfl, rfl⟩ | ⟨hj, hb⟩
      · omega
      · have hbk := hi.att _ _ hb
        have b1 := hbk.from_
        have b2 := hbk.rv
        have b3 := hbk.wv
        refine ⟨by show b.from_ < n; omega, by show b.rv ≤ e.v; omega, fun _ _ => by show b.wv ≤ e.v; omega, fun h => absurd rfl h, fun h => ?_⟩
        exact hended _ _ hb (by rw [h]; exact hthe)
    · have hb_ := getElem?_snoc_cases hb; clear hb
      rcases hb_ with ⟨rfl, rfl⟩ | ⟨hj, hb⟩
      · omega
      · exact hi.pair _ _ _ _ hjk hb hc
  · intro j k b c hjk hb hc hbc hm
    have hc_ := getElem?_snoc_cases hc; clear hc
    rcases hc_ with ⟨rfl, rfl⟩ | ⟨hk, hc⟩
    · have hb_ := getElem?_snoc_cases hb; clear hb
      rcases hb_ with ⟨rfl, rfl⟩ | ⟨hj, hb⟩
      · omega
      · have hbth : b.th = (th : Int) := by rw [hbc]; exact hthe
        rcases hi.thr th hlt with ⟨h1, _⟩ | ⟨d, o, h1, h2, h3, h4, h5⟩
        · exact absurd hbth (h1 _ _ hb)
        · rcases Nat.lt_trichotomy j (h.last th) with hl | he | hg
          · have hdl := (List.getElem?_eq_some_iff.1 h1).1
            exact absurd (by rw [h3]; exact hthe.symm) (hm _ d hl hdl (by rw [List.getElem?_append_left hdl]; exact h1))
          · subst he
            rw [h1] at hb
            cases hb
            show e.tx = _
            rw [htx]
            exact (h5.done h0).2
          · exact absurd hbth (h4 _ _ hg hb)
    · have hb_ := getElem?_snoc_cases hb; clear hb
      rcases hb_ with ⟨rfl, rfl⟩ | ⟨hj, hb⟩
      · omega
      · exact hi.row _ _ _ _ hjk hb hc hbc (fun m d h1 h2 hd => hm m d h1 h2 (by rw [List.getElem?_append_left (by omega)]; exact hd))
  · intro k c hc hm
    have hc_ := getElem?_snoc_cases hc; clear hc
    rcases hc_ with ⟨rfl, rfl⟩ | ⟨hk, hc⟩
    · show e.tx = 0
      rcases hi.thr th hlt with ⟨_, _, h1⟩ | ⟨d, o, h1, h2, h3, h4, h5⟩
      · rw [htx, h1]
      · have hdl := (List.getElem?_eq_some_iff.1 h1).1
        exact absurd (by rw [h3]; exact hthe.symm) (hm _ d hdl (by rw [List.getElem?_append_left hdl]; exact h1))
    · exact hi.row0 _ _ hc (fun j a hj ha => hm j a hj (by rw [List.getElem?_append_left (by omega)]; exact ha))
  · intro i hil
    rw [hT] at hil
    by_cases he : i = th
    · subst he
      refine .inr ⟨newA e n, 0, ?_, ?_, hthe, ?_, ?_⟩
      · show (h.out ++ [newA e n])[updN h.last e.th h.out.length (i : Int)]? = _
        rw [uEq, List.getElem?_append_right (Nat.le_refl _), Nat.sub_self]; rfl
      · show (h.owned ++ [0])[updN h.last e.th h.out.length (i : Int)]? = _
        rw [uEq, ← hi.len, List.getElem?_append_right (Nat.le_refl _), Nat.sub_self]; rfl
      · intro m c hm hc
        have hm' : updN h.last e.th h.out.length (i : Int) < m := hm
        rw [uEq] at hm'
        have hc_ := getElem?_snoc_cases hc; clear hc
        rcases hc_ with ⟨rfl, rfl⟩ | ⟨hk, hc⟩ <;> omega
      · rw [gEq, ht']
        refine ⟨?_, rfl, fun _ => ⟨rfl, rfl, htx.symm⟩, fun h => ?_, fun h => ?_, fun h => ?_, fun h => ?_⟩
        · show (0 : Int) = cntb 0
          rw [(cntb_zero (m := 0) (by decide)).2 rfl]; rfl
        · dsimp only at h; omega
        · dsimp only at h; omega
        · dsimp only at h; omega
        · dsimp only at h; omega
    · rw [gNe i he]
      rcases hi.thr i hil with ⟨h1, h2⟩ | ⟨b, o, h1, h2, h3, h4, h5⟩
      · refine .inl ⟨fun m c hc => ?_, h2⟩
        have hc_ := getElem?_snoc_cases hc; clear hc
        rcases hc_ with ⟨rfl, rfl⟩ | ⟨hk, hc⟩
        · show e.th ≠ _; omega
        · exact h1 _ _ hc
      · have hbl := (List.getElem?_eq_some_iff.1 h1).1
        refine .inr ⟨b, o, ?_, ?_, h3, fun m c hm hc => ?_, h5⟩
        · show (h.out ++ [newA e n])[updN h.last e.th h.out.length (i : Int)]? = _
          rw [uNe i he, List.getElem?_append_left hbl]; exact h1
        · show (h.owned ++ [0])[updN h.last e.th h.out.length (i : Int)]? = _
          rw [uNe i he, List.getElem?_append_left (by rw [hi.len]; exact hbl)]; exact h2
        · have hm' : updN h.last e.th h.out.length (i : Int) < m := hm
          rw [uNe i he] at hm'
          have hc_ := getElem?_snoc_cases hc; clear hc
          rcases hc_ with ⟨rfl, rfl⟩ | ⟨hk, hc⟩
          · show e.th ≠ _; omega
          · exact h4 _ _ hm' hc
  · intro i hil h4
    rw [hT] at hil
    by_cases he : i = th
    · subst he
      rw [gEq, ht'] at h4
      dsimp only at h4
      omega
    · rw [gNe i he] at h4 ⊢
      obtain ⟨g1, g2, g3⟩ := hi.pend i hil h4
      refine ⟨g1, fun k b hb => ?_, fun j hj hji hj4 => ?_⟩
      · have hb_ := getElem?_snoc_cases hb; clear hb
        rcases hb_ with ⟨rfl, rfl⟩ | ⟨hk, hb⟩
        · show (0 : Int) ≠ _
          exact fun e => g1.1 e.symm
        · exact g2 _ _ hb
      · rw [hT] at hj
        by_cases hj2 : j = th
        · subst hj2
          rw [gEq, ht'] at hj4
          dsimp only at hj4
          omega
        · rw [gNe j hj2] at hj4 ⊢
          exact g3 j hj hji hj4
/-- A Wake. -/
theorem HI.wake {s s' : Sh} {h : HS} {n : Int} (hi : HI s h n) {th : Nat} {t' : Th} (hlt : th < s.ths.length) (hths : s'.ths = s.ths.set th t') (hclk : s'.clock = s.clock) (hv : s'.vars = s.vars)
    (h8 : (s.ths.getD th Th.zero).at_ = 8) (ht' : t' = { s.ths.getD th Th.zero with at_ := 0 }) : HI s' h (n + 1) := by
  have hT : s'.ths.length = s.ths.length := by rw [hths, List.length_set]
  have gEq : s'.ths.getD th Th.zero = t' := by rw [hths]; exact getD_set_eq _ _ _ _ hlt
  have gNe : ∀ i, i ≠ th → s'.ths.getD i Th.zero = s.ths.getD i Th.zero := fun i hne => by rw [hths]; exact getD_set_ne _ _ _ _ _ (fun e => hne e.symm)
  refine ⟨hi.len, by have := hi.pos; omega, fun k b hb => ?_, hi.pair, hi.row, hi.row0, fun i hil => ?_, fun i hil h4 => ?_⟩
  · rw [hT, hv, hclk]; exact (hi.att _ _ hb).mono (Int.le_refl _) (by omega)
  · rw [hT] at hil
    by_cases he : i = th
    · subst he
      rcases hi.thr i hil with ⟨_, h2, _⟩ | ⟨b, o, h1, h2, h3, h4, h5⟩
      · omega
      · obtain ⟨q1, q2, q3⟩ := h5.stop (.inl h8)
        refine .inr ⟨b, o, h1, h2, h3, h4, ?_⟩
        rw [gEq, ht']
        refine ⟨h5.o, h5.rv, fun h => ?_, fun h => ?_, fun h => ?_, fun _ => ⟨q1, by rw [q2]; show (s.ths.getD i Th.zero).commits = _; rw [q3]; simp⟩, fun h => ?_⟩
        · dsimp only at h; omega
        · dsimp only at h; omega
        · dsimp only at h; omega
        · dsimp only at h; omega
    · rw [gNe i he]; exact hi.thr i hil
  · rw [hT] at hil
    by_cases he : i = th
    · subst he
      rw [gEq, ht'] at h4
      dsimp only at h4
      omega
    · rw [gNe i he] at h4 ⊢
      obtain ⟨g1, g2, g3⟩ := hi.pend i hil h4
      refine ⟨g1, g2, fun j hj hji hj4 => ?_⟩
      rw [hT] at hj
      by_cases hj2 : j = th
      · subst hj2
        rw [gEq, ht'] at hj4
        dsimp only at hj4
        omega
      · rw [gNe j hj2] at hj4 ⊢
        exact g3 j hj hji hj4
end Go.Proofs.YtcddlnmcjmhbcaaDoor
/-
  Attempts beside the checker's machine: each event keeps what holds. Nothing of the program.
-/
namespace Go.Proofs.YtcddlnmcjmhbcaaDoor
set_option linter.unusedVariables false
set_option linter.unusedSimpArgs false
set_option linter.unusedVariables false
theorem getD_of_get? {α : Type} {l : List α} {k : Nat} {x d : α} (h : l[k]? = some x) : l.getD k d = x := by
  rw [List.getD_eq_getElem?_getD, h]; rfl
theorem hi_new (T V S : Int) : HI (newS T V S) newH 0 := by
  refine ⟨rfl, Int.le_refl _, fun k a h => ?_, fun j k a b _ h => ?_, fun j k a b _ h => ?_, fun k b h => ?_, fun i hi => .inl ⟨fun m c h => ?_, ?_, ?_⟩, fun i hi h4 => ?_⟩
  · simp [newH] at h
  · simp [newH] at h
  · simp [newH] at h
  · simp [newH] at h
  · simp [newH] at h
  · have : (newS T V S).ths.getD i Th.zero = Th.zero := by
      simp only [newS, List.getD_eq_getElem?_getD]
      rw [List.getElem?_replicate]; split <;> rfl
    rw [this]; rfl
  · have : (newS T V S).ths.getD i Th.zero = Th.zero := by
      simp only [newS, List.getD_eq_getElem?_getD]
      rw [List.getElem?_replicate]; split <;> rfl
    rw [this]; rfl
  · have : (newS T V S).ths.getD i Th.zero = Th.zero := by
      simp only [newS, List.getD_eq_getElem?_getD]
      rw [List.getElem?_replicate]; split <;> rfl
    rw [this] at h4
    exact absurd h4 (by decide)
/-- What the attempt of an event (no Begin, no Wake) is. -/
theorem HI.mine {s : Sh} {h : HS} {n : Int} (hi : HI s h n) {th : Nat} (hlt : th < s.ths.length) (h0 : (s.ths.getD th Th.zero).at_ ≠ 0) :
    ∃ a o, h.out[h.last th]? = some a ∧ h.owned[h.last th]? = some o ∧ a.th = (th : Int) ∧ (∀ (m : Nat) (c : Att), h.last th < m → h.out[m]? = some c → c.th ≠ (th : Int)) ∧ HT (s.ths.getD th Th.zero) a o := by
  rcases hi.thr th hlt with ⟨_, h1, _⟩ | h
  · exact absurd h1 h0
  · exact h
theorem stepH_mid {h : HS} {n : Int} {e : Ev} {th : Nat} {a : Att} {o : Int} (hthe : e.th = (th : Int)) (k1 : e.kind ≠ 1) (k13 : e.kind ≠ 13) (ha : h.out[h.last th]? = some a) (ho : h.owned[h.last th]? = some o) :
    stepH h n e = ⟨h.last, h.out.set (h.last th) (turnA a o e n), h.owned.set (h.last th) (turnO o e)⟩ := by
  unfold stepH
  rw [if_neg k1, if_neg k13, hthe, getD_of_get? ha, getD_of_get? ho]
theorem hi_step {s s' : Sh} {h : HS} {n : Int} {e : Ev} (hw : Wf s) (hi : HI s h n) (hs : stepS s e = some s') : HI s' (stepH h n e) (n + 1) := by
  obtain ⟨th, hthe, htn, hlt, hm, hk, hat, hatS, hmod, hv, hd⟩ := stepS_inv hw hs
  have R : ∀ (q : Sh) (t' : Th), q.ths = s.ths → (q.setTh e.th t').ths = s.ths.set th t' := by intro q t' h1; simp only [Sh.setTh, h1, htn]
  have wt := hw.th th hlt
  have wvs : ∀ i, i < s.ths.length → (s.ths.getD i Th.zero).wv ≤ s.clock := fun i hi => (hw.th i hi).wvb.2
  have hrv := wt.rvb.2
  have hc0 := hw.clk.1
  have hn0 := hi.pos
  have hsz := hw.size
  have hsn : s.n = s.sts.length := rfl
  have mine := fun h0 => hi.mine (th := th) hlt h0
  have hpd := hi.pend th hlt
  have turn := fun {s' : Sh} {t' : Th} {a a' : Att} {o' : Int} => hi.turn (s' := s') (t' := t') (a := a) (a' := a') (o' := o') hlt
  obtain ⟨t, ht⟩ : ∃ t, t = s.ths.getD th Th.zero := ⟨_, rfl⟩
  rw [← ht] at hd wt hrv mine hpd turn
  unfold doesS at hd
  by_cases k1 : e.kind = 1
  · rw [if_pos k1] at hd
    unfold beginS at hd; split at hd
    case isFalse => cases hd
    rename_i hc
    cases hd
    unfold stepH
    rw [if_pos k1]
    exact hi.begin hthe hlt (R _ _ rfl) rfl hc.2.2 hc0 rfl (by rw [← ht]; exact hc.1) (by rw [← ht]; exact hc.2.1) (mayE_of hm).2.2.1.1 (by rw [← ht])
  rw [if_neg k1] at hd
  by_cases k2 : e.kind = 2
  · rw [if_pos k2] at hd
    unfold lookS at hd; split at hd
    case isFalse => cases hd
    rename_i hc
    cases hd
    obtain ⟨a, o, h1, h2, h3, h4, h5⟩ := mine (by omega)
    have hA : turnA a o e n = a := by unfold turnA; rw [if_neg (by omega), if_neg (by omega), if_neg (by omega), if_neg (by omega), if_neg (by omega), if_neg (by omega)]
    have hO : turnO o e = o := by unfold turnO; rw [if_neg (by omega), if_neg (by omega)]
    rw [stepH_mid hthe k1 (by omega) h1 h2, hA, hO]
    have hr := h5.run (.inl hc.1)
    exact turn (R (s.setSt e.at_ (-1, e.v)) _ rfl) (Int.le_refl _) rfl h1 h3 h4 ⟨rfl, rfl, rfl, rfl⟩ ⟨hr.1, .inl hr.1⟩ (.inl rfl) ((hi.att _ _ h1).mono (Int.le_refl _) (by omega))
      ⟨h5.o, h5.rv, fun _ => hr, fun h => by dsimp only at h; omega, fun h => by dsimp only at h; omega, fun h => by dsimp only at h; omega, fun h => by dsimp only at h; omega⟩ (fun h => by dsimp only at h; omega) hrv hc0 wvs
  rw [if_neg k2] at hd
  by_cases k3 : e.kind = 3
  · rw [if_pos k3] at hd
    unfold loadS at hd; split at hd
    case isFalse => cases hd
    rename_i hc
    cases hd
    obtain ⟨a, o, h1, h2, h3, h4, h5⟩ := mine (by omega)
    have hA : turnA a o e n = { a with reads := a.reads ++ [(e.at_, e.x)] } := by unfold turnA; rw [if_pos k3]
    have hO : turnO o e = o := by unfold turnO; rw [if_neg (by omega), if_neg (by omega)]
    rw [stepH_mid hthe k1 (by omega) h1 h2, hA, hO]
    have hr := h5.run (.inr (.inl hc.1))
    have ok := (hi.att _ _ h1).mono (Int.le_refl s.clock) (show n ≤ n + 1 by omega)
    exact turn (R s _ rfl) (Int.le_refl _) rfl h1 h3 h4 ⟨rfl, rfl, rfl, rfl⟩ ⟨hr.1, .inl hr.1⟩ (.inl rfl)
      ⟨ok.th, ok.tx, ok.from_, ok.to_, ok.rv, ok.wv, ok.gt, ok.nc, ok.nw, fun p hp => by
        rcases List.mem_append.1 hp with hp | hp
        · exact ok.rds p hp
        · rw [List.mem_singleton] at hp; subst hp; exact ⟨hat.1, hat.2.1⟩, ok.wrs, ok.up⟩
      ⟨h5.o, h5.rv, fun _ => hr, fun h => by dsimp only at h; omega, fun h => by dsimp only at h; omega, fun h => by dsimp only at h; omega, fun h => by dsimp only at h; omega⟩ (fun h => by dsimp only at h; omega) hrv hc0 wvs
  rw [if_neg k3] at hd
  by_cases k4 : e.kind = 4
  · rw [if_pos k4] at hd
    unfold lockS at hd; split at hd
    case isFalse => cases hd
    rename_i hc
    cases hd
    obtain ⟨a, o, h1, h2, h3, h4, h5⟩ := mine (by omega)
    obtain ⟨b1, b2⟩ := hatS (by omega) (by omega)
    have hA : turnA a o e n = a := by unfold turnA; rw [if_neg (by omega), if_neg (by omega), if_neg (by omega), if_neg (by omega), if_neg (by omega), if_neg (by omega)]
    have hO : turnO o e = o + 1 := by unfold turnO; rw [if_pos k4]
    rw [stepH_mid hthe k1 (by omega) h1 h2, hA, hO]
    have hr := h5.run (by omega)
    have hbit : t.owned.testBit e.at_.toNat = false := by
      cases hb : t.owned.testBit e.at_.toNat with
      | false => rfl
      | true =>
        have := (wt.own _ hb).2
        have h' := hc.2.2
        rw [own_getD] at h'
        omega
    have hcnt := cntb_set hbit (by omega)
    exact turn (R (s.setSt e.at_ (e.th, s.ver e.at_)) _ rfl) (Int.le_refl _) rfl h1 h3 h4 ⟨rfl, rfl, rfl, rfl⟩ ⟨hr.1, .inl hr.1⟩ (.inl rfl) ((hi.att _ _ h1).mono (Int.le_refl _) (by omega))
      ⟨by have := h5.o; dsimp only; omega, h5.rv, fun _ => hr, fun h => by dsimp only at h; omega, fun h => by dsimp only at h; omega, fun h => by dsimp only at h; omega, fun h => by dsimp only at h; omega⟩ (fun h => by dsimp only at h; omega) hrv hc0 wvs
  rw [if_neg k4] at hd
  by_cases k5 : e.kind = 5
  · rw [if_pos k5] at hd
    unfold bumpS at hd; split at hd
    case isFalse => cases hd
    rename_i hc
    cases hd
    obtain ⟨a, o, h1, h2, h3, h4, h5⟩ := mine (by omega)
    have hA : turnA a o e n = a := by unfold turnA; rw [if_neg (by omega), if_neg (by omega), if_neg (by omega), if_neg (by omega), if_neg (by omega), if_neg (by omega)]
    have hO : turnO o e = o := by unfold turnO; rw [if_neg (by omega), if_neg (by omega)]
    rw [stepH_mid hthe k1 (by omega) h1 h2, hA, hO]
    have hr := h5.run (by omega)
    exact turn (R { s with clock := e.v } _ rfl) (Int.le_of_lt hc.2) rfl h1 h3 h4 ⟨rfl, rfl, rfl, rfl⟩ ⟨hr.1, .inl hr.1⟩ (.inl rfl) ((hi.att _ _ h1).mono (Int.le_of_lt hc.2) (by omega))
      ⟨h5.o, h5.rv, fun _ => hr, fun h => by dsimp only at h; omega, fun h => by dsimp only at h; omega, fun h => by dsimp only at h; omega, fun h => by dsimp only at h; omega⟩ (fun _ => ⟨rfl, .inr hc.2⟩) hrv hc0 wvs
  rw [if_neg k5] at hd
  by_cases k6 : e.kind = 6
  · rw [if_pos k6] at hd
    unfold checkS at hd; split at hd
    case isFalse => cases hd
    rename_i hc
    cases hd
    obtain ⟨a, o, h1, h2, h3, h4, h5⟩ := mine (by omega)
    have hA : turnA a o e n = a := by unfold turnA; rw [if_neg (by omega), if_neg (by omega), if_neg (by omega), if_neg (by omega), if_neg (by omega), if_neg (by omega)]
    have hO : turnO o e = o := by unfold turnO; rw [if_neg (by omega), if_neg (by omega)]
    rw [stepH_mid hthe k1 (by omega) h1 h2, hA, hO]
    have hr := h5.run (by omega)
    exact turn (R s _ rfl) (Int.le_refl _) rfl h1 h3 h4 ⟨rfl, rfl, rfl, rfl⟩ ⟨hr.1, .inl hr.1⟩ (.inl rfl) ((hi.att _ _ h1).mono (Int.le_refl _) (by omega))
      ⟨h5.o, h5.rv, fun _ => hr, fun h => by have := hc.1; dsimp only at h; omega, fun h => by have := hc.1; dsimp only at h; omega, fun h => by have := hc.1; dsimp only at h; omega, fun h => by have := hc.1; dsimp only at h; omega⟩ (fun _ => ⟨rfl, .inl ⟨hc.1, rfl⟩⟩) hrv hc0 wvs
  rw [if_neg k6] at hd
  by_cases k7 : e.kind = 7
  · rw [if_pos k7] at hd
    have hA : ∀ a o, turnA a o e n = { a with com := true, wv := e.v, to_ := if o = 0 then n else a.to_ } := fun a o => by unfold turnA; rw [if_neg (by omega), if_neg (by omega), if_pos k7]
    have hO : ∀ o, turnO o e = o := fun o => by unfold turnO; rw [if_neg (by omega), if_neg (by omega)]
    unfold commitS at hd; split at hd
    · rename_i hc
      cases hd
      obtain ⟨a, o, h1, h2, h3, h4, h5⟩ := mine (by omega)
      rw [stepH_mid hthe k1 (by omega) h1 h2, hA, hO]
      have hr := h5.run (by omega)
      have ho : o = 0 := by rw [h5.o, wt.idle (by omega), (cntb_zero (m := 0) (by decide)).2 rfl]; rfl
      rw [if_pos ho, hc.1]
      have ok := (hi.att _ _ h1).mono (Int.le_refl s.clock) (show n ≤ n + 1 by omega)
      have hwv := ok.nc hr.2.1
      have hfr := (hi.att _ _ h1).from_
      exact turn (R s _ rfl) (Int.le_refl _) rfl h1 h3 h4 ⟨rfl, rfl, rfl, rfl⟩ ⟨hr.1, .inr rfl⟩ (.inl hwv.symm)
        ⟨ok.th, ok.tx, ok.from_, .inr ⟨by dsimp only; omega, by dsimp only; omega⟩, ok.rv, ⟨Int.le_refl _, hc0⟩, fun h => absurd rfl h, fun _ => rfl, fun _ => ok.nw hwv, ok.rds, ok.wrs, ok.up⟩
        ⟨h5.o, h5.rv, fun h => by dsimp only at h; omega, fun h => by dsimp only at h; omega, fun h => by dsimp only at h; omega, fun _ => ⟨by dsimp only; omega, by dsimp only; rw [if_pos rfl, hr.2.2]⟩, fun h => by dsimp only at h; omega⟩ (fun h => by dsimp only at h; omega) hrv hc0 wvs
    · split at hd
      case isFalse => cases hd
      rename_i hc
      cases hd
      obtain ⟨a, o, h1, h2, h3, h4, h5⟩ := mine (by omega)
      rw [stepH_mid hthe k1 (by omega) h1 h2, hA, hO]
      have hr := h5.run (by omega)
      have ho : o ≠ 0 := by
        intro e0
        have := h5.o
        rw [e0] at this
        exact wt.busy (by omega) ((cntb_zero wt.m2).1 (by omega))
      rw [if_neg ho]
      have ok := (hi.att _ _ h1).mono (Int.le_refl s.clock) (show n ≤ n + 1 by omega)
      have hwv := ok.nc hr.2.1
      have hp4 := hpd (by omega)
      have hwb := wt.wvb
      have hrr := h5.rv
      exact turn (R s _ rfl) (Int.le_refl _) rfl h1 h3 h4 ⟨rfl, rfl, rfl, rfl⟩ ⟨hr.1, .inl hr.1⟩ (.inr ⟨by omega, hc.2.2.2, by dsimp only; omega⟩)
        ⟨ok.th, ok.tx, ok.from_, ok.to_, ok.rv, ⟨by dsimp only; omega, by show e.v ≤ s.clock; omega⟩, (fun _ => by dsimp only; omega), (fun h => by cases h), fun h => absurd h hc.1, ok.rds, ok.wrs, ok.up⟩
        ⟨h5.o, h5.rv, fun h => by dsimp only at h; omega, fun _ => ⟨hr.1, rfl, hc.2.2.2, hc.1, hr.2.2⟩, fun _ p hp => by dsimp only at hp; rw [ok.nw hwv] at hp; exact absurd hp (List.not_mem_nil), fun h => by dsimp only at h; omega, fun h => by dsimp only at h; omega⟩ (fun h => by dsimp only at h; omega) hrv hc0 wvs
  rw [if_neg k7] at hd
  by_cases k8 : e.kind = 8
  · rw [if_pos k8] at hd
    unfold storeS at hd; split at hd
    case isFalse => cases hd
    rename_i hc
    cases hd
    obtain ⟨a, o, h1, h2, h3, h4, h5⟩ := mine (by omega)
    have hA : turnA a o e n = { a with writes := a.writes ++ [(e.at_, e.x)] } := by unfold turnA; rw [if_neg k3, if_pos k8]
    have hO : turnO o e = o := by unfold turnO; rw [if_neg (by omega), if_neg (by omega)]
    rw [stepH_mid hthe k1 (by omega) h1 h2, hA, hO]
    have hr := h5.put (.inl hc.1)
    have hvr := h5.var hc.1
    have ok := (hi.att _ _ h1).mono (Int.le_refl s.clock) (show n ≤ n + 1 by omega)
    exact turn (R s _ rfl) (Int.le_refl _) rfl h1 h3 h4 ⟨rfl, rfl, rfl, rfl⟩ ⟨hr.1, .inl hr.1⟩ (.inl rfl)
      ⟨ok.th, ok.tx, ok.from_, ok.to_, ok.rv, ok.wv, ok.gt, ok.nc, fun h => absurd h hr.2.2.2.1, ok.rds, fun p hp => by
        rcases List.mem_append.1 hp with hp | hp
        · exact ok.wrs p hp
        · rw [List.mem_singleton] at hp; subst hp; exact ⟨hat.1, hat.2.1⟩, by
        refine List.pairwise_append.2 ⟨ok.up, List.pairwise_singleton _ _, fun p hp q hq => ?_⟩
        rw [List.mem_singleton] at hq
        subst hq
        have := hvr p hp
        have := hc.2.1
        show p.1 < e.at_
        omega⟩
      ⟨h5.o, h5.rv, fun h => by have := hc.1; dsimp only at h; omega, fun _ => hr, fun _ p hp => by
        have := hc.2.1
        rcases List.mem_append.1 hp with hp | hp
        · have := hvr p hp; dsimp only; omega
        · rw [List.mem_singleton] at hp; subst hp; exact Int.le_refl _, fun h => by have := hc.1; dsimp only at h; omega, fun h => by have := hc.1; dsimp only at h; omega⟩ (fun h => by have := hc.1; dsimp only at h; omega) hrv hc0 wvs
  rw [if_neg k8] at hd
  by_cases k9 : e.kind = 9
  · rw [if_pos k9] at hd
    have hA : ∀ a o, turnA a o e n = { a with to_ := if o - 1 = 0 then n else a.to_ } := fun a o => by unfold turnA; rw [if_neg k3, if_neg k8, if_neg k7, if_pos (.inl k9)]
    have hO : ∀ o, turnO o e = o - 1 := fun o => by unfold turnO; rw [if_neg k4, if_pos (.inl k9)]
    unfold freedS at hd; split at hd
    case isFalse => cases hd
    rename_i hc
    cases hd
    obtain ⟨a, o, h1, h2, h3, h4, h5⟩ := mine (by omega)
    obtain ⟨b1, b2⟩ := hatS (by omega) (by omega)
    rw [stepH_mid hthe k1 (by omega) h1 h2, hA, hO]
    have hr := h5.put (by omega)
    have ok := (hi.att _ _ h1).mono (Int.le_refl s.clock) (show n ≤ n + 1 by omega)
    have hfr := (hi.att _ _ h1).from_
    have hl32 : e.at_.toNat = leastb t.owned := by have := hc.2; omega
    have hbit : t.owned.testBit e.at_.toNat = true := by rw [hl32]; exact leastb_some (by omega)
    have hcnt := cntb_clr hbit (by omega)
    have hoo := h5.o
    by_cases hz : clrb t.owned e.at_.toNat = 0
    · rw [if_pos hz]
      have ho : o - 1 = 0 := by rw [hz, (cntb_zero (m := 0) (by decide)).2 rfl] at hcnt; omega
      rw [if_pos ho]
      exact turn (R (s.setSt e.at_ (-1, t.wv)) _ rfl) (Int.le_refl _) rfl h1 h3 h4 ⟨rfl, rfl, rfl, rfl⟩ ⟨hr.1, .inr rfl⟩ (.inl rfl)
        ⟨ok.th, ok.tx, ok.from_, .inr ⟨by dsimp only; omega, by dsimp only; omega⟩, ok.rv, ok.wv, ok.gt, ok.nc, ok.nw, ok.rds, ok.wrs, ok.up⟩
        ⟨by dsimp only; omega, h5.rv, fun h => by dsimp only at h; omega, fun h => by dsimp only at h; omega, fun h => by dsimp only at h; omega, fun _ => ⟨by dsimp only; omega, by dsimp only; rw [if_pos hr.2.1, hr.2.2.2.2]⟩, fun h => by dsimp only at h; omega⟩ (fun h => by dsimp only at h; omega) hrv hc0 wvs
    · rw [if_neg hz]
      have ho : o - 1 ≠ 0 := fun e0 => hz ((cntb_zero (clrb_lt wt.m2)).1 (by omega))
      rw [if_neg ho]
      exact turn (R (s.setSt e.at_ (-1, t.wv)) _ rfl) (Int.le_refl _) rfl h1 h3 h4 ⟨rfl, rfl, rfl, rfl⟩ ⟨hr.1, .inl hr.1⟩ (.inl rfl) ok
        ⟨by dsimp only; omega, h5.rv, fun h => by dsimp only at h; omega, fun _ => hr, fun h => by dsimp only at h; omega, fun h => by dsimp only at h; omega, fun h => by dsimp only at h; omega⟩ (fun h => by dsimp only at h; omega) hrv hc0 wvs
  rw [if_neg k9] at hd
  by_cases k10 : e.kind = 10
  · rw [if_pos k10] at hd
    have hA : ∀ a o, turnA a o e n = { a with to_ := if o = 0 then n else a.to_ } := fun a o => by unfold turnA; rw [if_neg k3, if_neg k8, if_neg k7, if_neg (by omega), if_pos k10]
    have hO : ∀ o, turnO o e = o := fun o => by unfold turnO; rw [if_neg k4, if_neg (by omega)]
    unfold abortS at hd; split at hd
    case isFalse => cases hd
    rename_i hc
    cases hd
    have hfa := fits_at hc
    obtain ⟨a, o, h1, h2, h3, h4, h5⟩ := mine (by omega)
    rw [stepH_mid hthe k1 (by omega) h1 h2, hA, hO]
    have hr := h5.run (by omega)
    have ok := (hi.att _ _ h1).mono (Int.le_refl s.clock) (show n ≤ n + 1 by omega)
    have hfr := (hi.att _ _ h1).from_
    have hoo := h5.o
    by_cases hz : t.owned = 0
    · rw [if_pos hz]
      have ho : o = 0 := by rw [hz, (cntb_zero (m := 0) (by decide)).2 rfl] at hoo; omega
      rw [if_pos ho]
      exact turn (R s _ rfl) (Int.le_refl _) rfl h1 h3 h4 ⟨rfl, rfl, rfl, rfl⟩ ⟨hr.1, .inr rfl⟩ (.inl rfl)
        ⟨ok.th, ok.tx, ok.from_, .inr ⟨by dsimp only; omega, by dsimp only; omega⟩, ok.rv, ok.wv, ok.gt, ok.nc, ok.nw, ok.rds, ok.wrs, ok.up⟩
        ⟨hoo, h5.rv, fun h => by dsimp only at h; omega, fun h => by dsimp only at h; omega, fun h => by dsimp only at h; omega, fun _ => ⟨by dsimp only; omega, by dsimp only; rw [hr.2.1, hr.2.2]; simp⟩, fun h => by dsimp only at h; omega⟩ (fun h => by dsimp only at h; omega) hrv hc0 wvs
    · rw [if_neg hz]
      have ho : o ≠ 0 := fun e0 => hz ((cntb_zero wt.m2).1 (by omega))
      rw [if_neg ho]
      exact turn (R s _ rfl) (Int.le_refl _) rfl h1 h3 h4 ⟨rfl, rfl, rfl, rfl⟩ ⟨hr.1, .inl hr.1⟩ (.inl rfl) ok
        ⟨hoo, h5.rv, fun _ => hr, fun h => by dsimp only at h; omega, fun h => by dsimp only at h; omega, fun h => by dsimp only at h; omega, fun h => by dsimp only at h; omega⟩ (fun h => by dsimp only at h; omega) hrv hc0 wvs
  rw [if_neg k10] at hd
  by_cases k11 : e.kind = 11
  · rw [if_pos k11] at hd
    have hA : ∀ a o, turnA a o e n = { a with to_ := if o - 1 = 0 then n else a.to_ } := fun a o => by unfold turnA; rw [if_neg k3, if_neg k8, if_neg k7, if_pos (.inr k11)]
    have hO : ∀ o, turnO o e = o - 1 := fun o => by unfold turnO; rw [if_neg k4, if_pos (.inr k11)]
    unfold undoS at hd; split at hd
    case isFalse => cases hd
    rename_i hc
    cases hd
    obtain ⟨a, o, h1, h2, h3, h4, h5⟩ := mine (by omega)
    obtain ⟨b1, b2⟩ := hatS (by omega) (by omega)
    rw [stepH_mid hthe k1 (by omega) h1 h2, hA, hO]
    have hr := h5.run (by omega)
    have ok := (hi.att _ _ h1).mono (Int.le_refl s.clock) (show n ≤ n + 1 by omega)
    have hfr := (hi.att _ _ h1).from_
    have hl32 : e.at_.toNat = leastb t.owned := by have := hc.2; omega
    have hbit : t.owned.testBit e.at_.toNat = true := by rw [hl32]; exact leastb_some (by omega)
    have hcnt := cntb_clr hbit (by omega)
    have hoo := h5.o
    by_cases hz : clrb t.owned e.at_.toNat = 0
    · have ho : o - 1 = 0 := by rw [hz, (cntb_zero (m := 0) (by decide)).2 rfl] at hcnt; omega
      rw [if_pos ho]
      rw [if_pos hz]
      by_cases hf : t.full = true
      · rw [if_pos hf]
        exact turn (R (s.setSt e.at_ (-1, s.ver e.at_)) _ rfl) (Int.le_refl _) rfl h1 h3 h4 ⟨rfl, rfl, rfl, rfl⟩ ⟨hr.1, .inr rfl⟩ (.inl rfl)
          ⟨ok.th, ok.tx, ok.from_, .inr ⟨by dsimp only; omega, by dsimp only; omega⟩, ok.rv, ok.wv, ok.gt, ok.nc, ok.nw, ok.rds, ok.wrs, ok.up⟩
          ⟨by dsimp only; omega, h5.rv, fun h => by dsimp only at h; omega, fun h => by dsimp only at h; omega, fun h => by dsimp only at h; omega, fun h => by dsimp only at h; omega, fun _ => ⟨by dsimp only; omega, hr.2⟩⟩ (fun h => by dsimp only at h; omega) hrv hc0 wvs
      · rw [if_neg hf]
        exact turn (R (s.setSt e.at_ (-1, s.ver e.at_)) _ rfl) (Int.le_refl _) rfl h1 h3 h4 ⟨rfl, rfl, rfl, rfl⟩ ⟨hr.1, .inr rfl⟩ (.inl rfl)
          ⟨ok.th, ok.tx, ok.from_, .inr ⟨by dsimp only; omega, by dsimp only; omega⟩, ok.rv, ok.wv, ok.gt, ok.nc, ok.nw, ok.rds, ok.wrs, ok.up⟩
          ⟨by dsimp only; omega, h5.rv, fun h => by dsimp only at h; omega, fun h => by dsimp only at h; omega, fun h => by dsimp only at h; omega, fun _ => ⟨by dsimp only; omega, by dsimp only; rw [hr.2.1, hr.2.2]; simp⟩, fun h => by dsimp only at h; omega⟩ (fun h => by dsimp only at h; omega) hrv hc0 wvs
    · have ho : o - 1 ≠ 0 := fun e0 => hz ((cntb_zero (clrb_lt wt.m2)).1 (by omega))
      rw [if_neg ho]
      rw [if_neg hz]
      exact turn (R (s.setSt e.at_ (-1, s.ver e.at_)) _ rfl) (Int.le_refl _) rfl h1 h3 h4 ⟨rfl, rfl, rfl, rfl⟩ ⟨hr.1, .inl hr.1⟩ (.inl rfl) ok
        ⟨by dsimp only; omega, h5.rv, fun _ => hr, fun h => by dsimp only at h; omega, fun h => by dsimp only at h; omega, fun h => by dsimp only at h; omega, fun h => by dsimp only at h; omega⟩ (fun h => by dsimp only at h; omega) hrv hc0 wvs
  rw [if_neg k11] at hd
  by_cases k12 : e.kind = 12
  · rw [if_pos k12] at hd
    have hA : ∀ a o, turnA a o e n = { a with to_ := n } := fun a o => by unfold turnA; rw [if_neg k3, if_neg k8, if_neg k7, if_neg (by omega), if_neg k10, if_pos k12]
    have hO : ∀ o, turnO o e = o := fun o => by unfold turnO; rw [if_neg k4, if_neg (by omega)]
    unfold waitS at hd; split at hd
    case isFalse => cases hd
    rename_i hc
    cases hd
    obtain ⟨a, o, h1, h2, h3, h4, h5⟩ := mine (by omega)
    rw [stepH_mid hthe k1 (by omega) h1 h2, hA, hO]
    have hr := h5.run (by omega)
    have ok := (hi.att _ _ h1).mono (Int.le_refl s.clock) (show n ≤ n + 1 by omega)
    have hfr := (hi.att _ _ h1).from_
    exact turn (R s _ rfl) (Int.le_refl _) rfl h1 h3 h4 ⟨rfl, rfl, rfl, rfl⟩ ⟨hr.1, .inr rfl⟩ (.inl rfl)
      ⟨ok.th, ok.tx, ok.from_, .inr ⟨by dsimp only; omega, by dsimp only; omega⟩, ok.rv, ok.wv, ok.gt, ok.nc, ok.nw, ok.rds, ok.wrs, ok.up⟩
      ⟨h5.o, h5.rv, fun h => by dsimp only at h; omega, fun h => by dsimp only at h; omega, fun h => by dsimp only at h; omega, fun h => by dsimp only at h; omega, fun _ => ⟨by dsimp only; omega, hr.2⟩⟩ (fun h => by dsimp only at h; omega) hrv hc0 wvs
  rw [if_neg k12] at hd
  unfold wakeS at hd; split at hd
  case isFalse => cases hd
  rename_i hc
  cases hd
  unfold stepH
  rw [if_neg k1, if_pos (by omega)]
  exact hi.wake hlt (R s _ rfl) rfl rfl (by rw [← ht]; exact hc.1) (by rw [← ht])
/-- Behind k events. -/
theorem hi_run : ∀ (l : List Ev) {s s' : Sh} {h : HS} {n : Int}, Wf s → HI s h n → runS s l = some s' → HI s' (histF h n l) (n + l.length)
  | [], s, s', h, n, hw, hi, hr => by
    cases hr
    simpa [histF] using hi
  | e :: l, s, s', h, n, hw, hi, hr => by
    unfold runS at hr
    split at hr
    case h_2 => cases hr
    rename_i s1 hs
    have := hi_run l (stepS_wf hw hs) (hi_step hw hi hs) hr
    show HI s' (histF (stepH h n e) (n + 1) l) _
    rw [show n + ((e :: l).length : Nat) = n + 1 + (l.length : Nat) by simp only [List.length_cons]; omega]
    exact this
end Go.Proofs.YtcddlnmcjmhbcaaDoor
/-
  Histories, plainly: rows of a thread's attempts; how attempts grow with the events; which event is of which attempt. Nothing of the program.
-/
namespace Go.Proofs.YtcddlnmcjmhbcaaDoor
set_option linter.unusedVariables false
set_option linter.unusedSimpArgs false
set_option linter.unusedVariables false
/-! ### How attempts grow -/
structure Sub (n : Int) (a b : Att) : Prop where
  th : a.th = b.th
  tx : a.tx = b.tx
  from_ : a.from_ = b.from_
  rv : a.rv = b.rv
  rds : a.reads <+: b.reads
  wrs : a.writes <+: b.writes
  com : a.com = true → b.com = true ∧ a.wv = b.wv
  to1 : a.to_ ≠ -1 → a.to_ = b.to_
  to0 : a.to_ = -1 → b.to_ ≠ -1 → n ≤ b.to_
theorem Sub.refl (n : Int) (a : Att) : Sub n a a := ⟨rfl, rfl, rfl, rfl, List.prefix_refl _, List.prefix_refl _, fun h => ⟨h, rfl⟩, fun _ => rfl, fun h h' => absurd h h'⟩
theorem Sub.trans {n n' : Int} {a b c : Att} (h : Sub n a b) (h' : Sub n' b c) (hn : n ≤ n') : Sub n a c where
  th := h.th.trans h'.th
  tx := h.tx.trans h'.tx
  from_ := h.from_.trans h'.from_
  rv := h.rv.trans h'.rv
  rds := h.rds.trans h'.rds
  wrs := h.wrs.trans h'.wrs
  com hc := by
    obtain ⟨h1, h2⟩ := h.com hc
    obtain ⟨h3, h4⟩ := h'.com h1
    exact ⟨h3, h2.trans h4⟩
  to1 hc := by
    have h1 := h.to1 hc
    rw [h1]
    exact h'.to1 (by rw [← h1]; exact hc)
  to0 h1 h2 := by
    by_cases hb : b.to_ = -1
    · have := h'.to0 hb h2; omega
    · have e := h'.to1 hb
      have := h.to0 h1 hb
      omega
/-- What an event (no Begin, no Wake) meets. -/
theorem hi_mid {s s' : Sh} {h : HS} {n : Int} {e : Ev} (hw : Wf s) (hi : HI s h n) (hs : stepS s e = some s') (k1 : e.kind ≠ 1) (k13 : e.kind ≠ 13) :
    ∃ a o, h.out[h.last e.th]? = some a ∧ h.owned[h.last e.th]? = some o ∧ a.th = e.th ∧ a.to_ = -1 ∧ (e.kind = 7 → a.com = false) := by
  obtain ⟨th, t', hthe, hlt, _, _, _, hmv, _, _⟩ := at_step hw hs
  have hat : 1 ≤ (s.ths.getD th Th.zero).at_ ∧ (s.ths.getD th Th.zero).at_ ≤ 7 ∧ (e.kind = 7 → (s.ths.getD th Th.zero).at_ = 1 ∨ (s.ths.getD th Th.zero).at_ = 4) := by
    unfold Moves at hmv; omega
  obtain ⟨a, o, h1, h2, h3, h4, h5⟩ := hi.mine hlt (by omega)
  refine ⟨a, o, by rw [hthe]; exact h1, by rw [hthe]; exact h2, by rw [hthe]; exact h3, ?_, fun hk => ?_⟩
  · by_cases hp : (s.ths.getD th Th.zero).at_ = 5 ∨ (s.ths.getD th Th.zero).at_ = 6
    · exact (h5.put hp).1
    · exact (h5.run (by omega)).1
  · exact (h5.run (by have := hat.2.2 hk; omega)).2.1
theorem cntb_le (m : Nat) : cntb m ≤ 32 := by
  have := List.countP_le_length (p := fun i => m.testBit i) (l := List.range 32)
  rw [List.length_range] at this
  exact this
theorem hi_mo {s s' : Sh} {h : HS} {n : Int} {e : Ev} (hw : Wf s) (hi : HI s h n) (hs : stepS s e = some s') (k1 : e.kind ≠ 1) (k13 : e.kind ≠ 13) : ∃ o, h.owned[h.last e.th]? = some o ∧ 0 ≤ o ∧ o ≤ 32 := by
  obtain ⟨th, t', hthe, hlt, _, _, _, hmv, _, _⟩ := at_step hw hs
  have hat : (s.ths.getD th Th.zero).at_ ≠ 0 := by unfold Moves at hmv; omega
  obtain ⟨a, o, h1, h2, h3, h4, h5⟩ := hi.mine hlt hat
  have := cntb_le (s.ths.getD th Th.zero).owned
  have := h5.o
  exact ⟨o, by rw [hthe]; exact h2, by omega, by omega⟩
theorem turn_sub {a : Att} {o n : Int} {e : Ev} (h0 : a.to_ = -1) (h7 : e.kind = 7 → a.com = false) (hn : 0 ≤ n) : Sub n a (turnA a o e n) ∧ ((turnA a o e n).to_ = -1 ∨ (turnA a o e n).to_ = n) := by
  have ht : ∀ c : Prop, [Decidable c] → (if c then n else a.to_) = -1 ∨ (if c then n else a.to_) = n := by intro c _; split; exact .inr rfl; exact .inl h0
  have h0' : ∀ c : Prop, [Decidable c] → a.to_ = -1 → (if c then n else a.to_) ≠ -1 → n ≤ (if c then n else a.to_) := by
    intro c _ h1 h2
    by_cases hc : c
    · rw [if_pos hc]; omega
    · rw [if_neg hc] at h2; exact absurd h1 h2
  unfold turnA
  split
  · exact ⟨⟨rfl, rfl, rfl, rfl, List.prefix_append _ _, List.prefix_refl _, fun h => ⟨h, rfl⟩, fun _ => rfl, fun h h' => absurd h h'⟩, .inl h0⟩
  · split
    · exact ⟨⟨rfl, rfl, rfl, rfl, List.prefix_refl _, List.prefix_append _ _, fun h => ⟨h, rfl⟩, fun _ => rfl, fun h h' => absurd h h'⟩, .inl h0⟩
    · split
      · rename_i hk
        exact ⟨⟨rfl, rfl, rfl, rfl, List.prefix_refl _, List.prefix_refl _, (fun h => by rw [h7 hk] at h; cases h), fun h => absurd h0 h, h0' _⟩, ht _⟩
      · split
        · exact ⟨⟨rfl, rfl, rfl, rfl, List.prefix_refl _, List.prefix_refl _, fun h => ⟨h, rfl⟩, fun h => absurd h0 h, h0' _⟩, ht _⟩
        · split
          · exact ⟨⟨rfl, rfl, rfl, rfl, List.prefix_refl _, List.prefix_refl _, fun h => ⟨h, rfl⟩, fun h => absurd h0 h, h0' _⟩, ht _⟩
          · split
            · exact ⟨⟨rfl, rfl, rfl, rfl, List.prefix_refl _, List.prefix_refl _, fun h => ⟨h, rfl⟩, fun h => absurd h0 h, fun _ _ => Int.le_refl _⟩, .inr rfl⟩
            · exact ⟨Sub.refl _ _, .inl h0⟩
/-- What behind an event is of what was ahead of it. -/
structure Grown (n : Int) (A B : List Att) : Prop where
  len : A.length ≤ B.length
  old : ∀ k, k < A.length → Sub n (A.getD k Att.zero) (B.getD k Att.zero)
  new : ∀ k, A.length ≤ k → k < B.length → n ≤ (B.getD k Att.zero).from_
theorem Grown.refl (n : Int) (A : List Att) : Grown n A A := ⟨Nat.le_refl _, fun _ _ => Sub.refl _ _, fun k h1 h2 => absurd h2 (Nat.not_lt.2 h1)⟩
theorem Grown.trans {n n' : Int} {A B C : List Att} (h : Grown n A B) (h' : Grown n' B C) (hn : n ≤ n') : Grown n A C where
  len := Nat.le_trans h.len h'.len
  old k hk := (h.old k hk).trans (h'.old k (Nat.lt_of_lt_of_le hk h.len)) hn
  new k h1 h2 := by
    by_cases hb : k < B.length
    · rw [← (h'.old k hb).from_]; exact h.new k h1 hb
    · exact Int.le_trans hn (h'.new k (Nat.not_lt.1 hb) h2)
theorem grown_step {s s' : Sh} {h : HS} {n : Int} {e : Ev} (hw : Wf s) (hi : HI s h n) (hs : stepS s e = some s') : Grown n h.out (stepH h n e).out := by
  unfold stepH
  split
  · refine ⟨by simp, fun k hk => ?_, fun k h1 h2 => ?_⟩
    · show Sub n (h.out.getD k Att.zero) ((h.out ++ [newA e n]).getD k Att.zero)
      rw [List.getD_eq_getElem?_getD, List.getD_eq_getElem?_getD, List.getElem?_append_left hk]
      exact Sub.refl _ _
    · have : k = h.out.length := by simp at h2; omega
      subst this
      show n ≤ ((h.out ++ [newA e n]).getD h.out.length Att.zero).from_
      rw [List.getD_eq_getElem?_getD, List.getElem?_append_right (Nat.le_refl _), Nat.sub_self]
      exact Int.le_refl _
  · split
    · exact Grown.refl _ _
    · rename_i k1 k13
      obtain ⟨a, o, h1, h2, h3, h4, h5⟩ := hi_mid hw hi hs k1 k13
      rw [getD_of_get? h1, getD_of_get? h2]
      have hl := (List.getElem?_eq_some_iff.1 h1).1
      refine ⟨by simp, fun k hk => ?_, fun k h1 h2 => absurd h2 (by simp; omega)⟩
      show Sub n (h.out.getD k Att.zero) ((h.out.set (h.last e.th) (turnA a o e n)).getD k Att.zero)
      by_cases he : h.last e.th = k
      · subst he
        rw [getD_set_eq _ _ _ _ hl, getD_of_get? h1]
        exact (turn_sub h4 h5 hi.pos).1
      · rw [getD_set_ne _ _ _ _ _ he]
        exact Sub.refl _ _
theorem grown_run : ∀ (l : List Ev) {s s' : Sh} {h : HS} {n : Int}, Wf s → HI s h n → runS s l = some s' → Grown n h.out (histF h n l).out
  | [], s, s', h, n, hw, hi, hr => Grown.refl _ _
  | e :: l, s, s', h, n, hw, hi, hr => by
    unfold runS at hr
    split at hr
    case h_2 => cases hr
    rename_i s1 hs
    exact (grown_step hw hi hs).trans (grown_run l (stepS_wf hw hs) (hi_step hw hi hs) hr) (by omega)

/-! ### Traces -/
theorem histF_append : ∀ (l m : List Ev) (h : HS) (i : Int), histF h i (l ++ m) = histF (histF h i l) (i + l.length) m
  | [], m, h, i => by simp [histF]
  | x :: l, m, h, i => by
    show histF (stepH h i x) (i + 1) (l ++ m) = histF (histF (stepH h i x) (i + 1) l) _ m
    rw [histF_append l m]
    congr 1
    simp only [List.length_cons]; omega
/-- A well-formed trace's history. -/
structure Hist (T V S : Int) (l : List Ev) (s : Sh) : Prop where
  size : sizeOk T V S = true
  run : runS (newS T V S) l = some s
theorem Hist.hi {T V S : Int} {l : List Ev} {s : Sh} (h : Hist T V S l s) : HI s (histT l) l.length := by
  have := hi_run l (newS_wf h.size) (hi_new T V S) h.run
  rwa [Int.zero_add] at this
theorem Hist.wf {T V S : Int} {l : List Ev} {s : Sh} (h : Hist T V S l s) : Wf s := runS_wf l (newS_wf h.size) h.run
theorem Hist.take {T V S : Int} {l : List Ev} {s : Sh} (h : Hist T V S l s) (k : Nat) : ∃ r, Hist T V S (l.take k) r := by
  obtain ⟨r, hr⟩ := runS_take (k := k) h.run
  exact ⟨r, h.size, hr⟩
theorem Hist.grown {T V S : Int} {l : List Ev} {s : Sh} (h : Hist T V S l s) {k : Nat} (hk : k ≤ l.length) : Grown k (histT (l.take k)).out (histT l).out := by
  obtain ⟨r, hr⟩ := h.take k
  have e : l = l.take k ++ l.drop k := (List.take_append_drop k l).symm
  have hrun := h.run
  rw [e, runS_append, hr.run] at hrun
  have := grown_run (l.drop k) hr.wf hr.hi hrun
  rw [List.length_take, Nat.min_eq_left hk] at this
  have e2 : histT l = histF (histT (l.take k)) k (l.drop k) := by
    conv => lhs; rw [e]
    unfold histT
    rw [histF_append, List.length_take, Nat.min_eq_left hk, Int.zero_add]
  rw [e2]
  exact this
theorem Hist.step {T V S : Int} {l : List Ev} {s : Sh} (h : Hist T V S l s) {k : Nat} (hk : k < l.length) : ∃ r r', Hist T V S (l.take k) r ∧ stepS r l[k] = some r' ∧ Hist T V S (l.take (k + 1)) r' := by
  obtain ⟨r, hr⟩ := h.take k
  obtain ⟨r', h1, h2⟩ := runS_step h.run hk hr.run
  exact ⟨r, r', hr, h1, h.size, h2⟩
/-- Whose an event is. -/
def ofI (l : List Ev) (i : Nat) : Int := match l[i]? with
  | some e => ofH (histT (l.take i)) e
  | none => -1
theorem ofI_eq {l : List Ev} {i : Nat} (h : i < l.length) : ofI l i = ofH (histT (l.take i)) l[i] := by
  unfold ofI; rw [List.getElem?_eq_getElem h]
theorem ofT_take (l : List Ev) : ∀ k, k ≤ l.length → ofT (l.take k) = (List.range k).map (ofI l)
  | 0, _ => by simp [ofT, ofF]
  | k + 1, h => by
    rw [ofT_step h, ofT_take l k (by omega), List.range_succ, List.map_append, List.map_cons, List.map_nil, ofI_eq h]
theorem ofT_eq (l : List Ev) : ofT l = (List.range l.length).map (ofI l) := by
  have := ofT_take l l.length (Nat.le_refl _)
  rwa [List.take_length] at this
/-- What holds of each event, and its attempt at the end. -/
structure EachI (l : List Ev) (i : Nat) (e : Ev) (k : Nat) (a : Att) : Prop where
  of : ofI l i = k
  lt : k < (histT l).out.length
  get : (histT l).out.getD k Att.zero = a
  th : a.th = e.th
  from_ : a.from_ ≤ i
  to_ : a.to_ ≠ -1 → (i : Int) ≤ a.to_
  begin : e.kind = 1 → k = (histT (l.take i)).out.length ∧ a.from_ = i ∧ a.tx = e.tx ∧ a.rv = e.v
  load : e.kind = 3 → a.reads[((histT (l.take i)).out.getD k Att.zero).reads.length]? = some (e.at_, e.x)
  store : e.kind = 8 → a.writes[((histT (l.take i)).out.getD k Att.zero).writes.length]? = some (e.at_, e.x)
  commit : e.kind = 7 → a.com = true ∧ a.wv = e.v
theorem prefix_get {α : Type} {l m : List α} {k : Nat} {x : α} (h : l <+: m) (hx : l[k]? = some x) : m[k]? = some x := by
  obtain ⟨t, rfl⟩ := h
  rw [List.getElem?_append_left (List.getElem?_eq_some_iff.1 hx).1]; exact hx
theorem Hist.each {T V S : Int} {l : List Ev} {s : Sh} (h : Hist T V S l s) {i : Nat} (hi : i < l.length) (k13 : l[i].kind ≠ 13) : ∃ k a, EachI l i l[i] k a := by
  obtain ⟨r, r', hr, hs, hr'⟩ := h.step hi
  have hg := h.grown (k := i + 1) hi
  have hlen : ((l.take i).length : Int) = i := by rw [List.length_take, Nat.min_eq_left (Nat.le_of_lt hi)]
  have hI := hr.hi
  rw [hlen] at hI
  have hst := histT_step hi
  by_cases k1 : l[i].kind = 1
  · have ho : ofI l i = ((histT (l.take i)).out.length : Nat) := by rw [ofI_eq hi]; unfold ofH; rw [if_pos k1]
    have hout : (histT (l.take (i + 1))).out = (histT (l.take i)).out ++ [newA l[i] i] := by rw [hst]; unfold stepH; rw [if_pos k1]
    have hk : (histT (l.take i)).out.length < (histT (l.take (i + 1))).out.length := by rw [hout]; simp
    have hget : (histT (l.take (i + 1))).out.getD (histT (l.take i)).out.length Att.zero = newA l[i] i := by
      rw [hout, List.getD_eq_getElem?_getD, List.getElem?_append_right (Nat.le_refl _), Nat.sub_self]; rfl
    have hsub := hg.old _ hk
    rw [hget] at hsub
    refine ⟨_, _, ho, Nat.lt_of_lt_of_le hk hg.len, rfl, hsub.th.symm, ?_, fun h1 => ?_, fun _ => ⟨rfl, hsub.from_.symm, hsub.tx.symm, hsub.rv.symm⟩, fun h3 => by omega, fun h8 => by omega, fun h7 => by omega⟩
    · rw [← hsub.from_]; exact Int.le_refl _
    · have := hsub.to0 rfl h1; omega
  · obtain ⟨a, o, h1, h2, h3, h4, h5⟩ := hi_mid hr.wf hI hs k1 k13
    have hl := (List.getElem?_eq_some_iff.1 h1).1
    have ho : ofI l i = ((histT (l.take i)).last l[i].th : Nat) := by rw [ofI_eq hi]; unfold ofH; rw [if_neg k1, if_neg k13]
    have hout : (histT (l.take (i + 1))).out = (histT (l.take i)).out.set ((histT (l.take i)).last l[i].th) (turnA a o l[i] i) := by
      rw [hst]; unfold stepH; rw [if_neg k1, if_neg k13, getD_of_get? h1, getD_of_get? h2]
    have hk : (histT (l.take i)).last l[i].th < (histT (l.take (i + 1))).out.length := by rw [hout, List.length_set]; exact hl
    have hget : (histT (l.take (i + 1))).out.getD ((histT (l.take i)).last l[i].th) Att.zero = turnA a o l[i] i := by rw [hout]; exact getD_set_eq _ _ _ _ hl
    have hsub := hg.old _ hk
    rw [hget] at hsub
    obtain ⟨ts, tt⟩ := turn_sub (o := o) (n := (i : Int)) h4 h5 (by omega)
    have hgo : (histT (l.take i)).out.getD ((histT (l.take i)).last l[i].th) Att.zero = a := getD_of_get? h1
    have hfr := (hI.att _ _ h1).from_
    refine ⟨_, _, ho, Nat.lt_of_lt_of_le hk hg.len, rfl, ?_, ?_, fun h1 => ?_, fun h => absurd h k1, fun k3 => ?_, fun k8 => ?_, fun k7 => ?_⟩
    · rw [← hsub.th, ← ts.th]; exact h3
    · rw [← hsub.from_, ← ts.from_]; omega
    · rcases tt with e | e
      · have := hsub.to0 e h1; omega
      · have := hsub.to1 (by omega); omega
    · refine prefix_get hsub.rds ?_
      rw [hgo]
      unfold turnA
      rw [if_pos k3]
      simp
    · refine prefix_get hsub.wrs ?_
      rw [hgo]
      unfold turnA
      rw [if_neg (by omega), if_pos k8]
      simp
    · have hc : (turnA a o l[i] i).com = true ∧ (turnA a o l[i] i).wv = l[i].v := by
        unfold turnA
        rw [if_neg (by omega), if_neg (by omega), if_pos k7]
        exact ⟨rfl, rfl⟩
      obtain ⟨q1, q2⟩ := hsub.com hc.1
      exact ⟨q1, by rw [← q2]; exact hc.2⟩
end Go.Proofs.YtcddlnmcjmhbcaaDoor
/-
  The document's attempts, plainly: the places of the events of each attempt, told anew for each; and that they are the history's own. Nothing of the program.
-/
namespace Go.Proofs.YtcddlnmcjmhbcaaDoor
set_option linter.unusedVariables false
set_option linter.unusedSimpArgs false
set_option linter.unusedVariables false

def evA0 (l : List Ev) (i : Nat) : Ev := l.getD i evZ
/-- No attempt of the thread begins behind b, up to i. -/
def opn (l : List Ev) (b i : Nat) : Bool := (List.range (i + 1)).all fun j => !(decide (b < j) && decide ((evA0 l j).th = (evA0 l b).th) && decide ((evA0 l j).kind = 1))
def isM (l : List Ev) (b i : Nat) : Bool := decide (b ≤ i) && decide ((evA0 l i).th = (evA0 l b).th) && !decide ((evA0 l i).kind = 13) && opn l b i
def mineP (l : List Ev) (b : Nat) : List Nat := (List.range l.length).filter (isM l b)
structure FR where
  a : Att
  lk : Int
  gn : Int
def stF (f : FR) (x : Ev) : FR :=
  if x.kind = 3 then { f with a := { f.a with reads := f.a.reads ++ [(x.at_, x.x)] } }
  else if x.kind = 8 then { f with a := { f.a with writes := f.a.writes ++ [(x.at_, x.x)] } }
  else if x.kind = 7 then { f with a := { f.a with com := true, wv := x.v } }
  else if x.kind = 4 then { f with lk := f.lk + 1 }
  else if x.kind = 9 ∨ x.kind = 11 then { f with gn := f.gn + 1 }
  else f
def foldG (l : List Ev) (f : FR) (m : List Nat) : FR := m.foldl (fun f i => stF f (evA0 l i)) f
def begF (l : List Ev) (b : Nat) : FR := ⟨newA (evA0 l b) b, 0, 0⟩
def foldR (l : List Ev) (b : Nat) : FR := foldG l (begF l b) (mineP l b)
def endR (k lk gn : Int) : Bool := decide ((k = 7 ∨ k = 10) ∧ lk = 0) || decide ((k = 9 ∨ k = 11) ∧ gn = lk) || decide (k = 12)
def lastM (l : List Ev) (b : Nat) : Nat := (mineP l b).getLastD 0
def attR (l : List Ev) (b : Nat) : Att := { (foldR l b).a with to_ := if endR (evA0 l (lastM l b)).kind (foldR l b).lk (foldR l b).gn = true then (lastM l b : Int) else -1 }
def isB (l : List Ev) (i : Nat) : Bool := decide ((evA0 l i).kind = 1)
def begs (l : List Ev) : List Nat := (List.range l.length).filter (isB l)
def ofR (l : List Ev) : List Att := (begs l).map (attR l)

theorem evA0_old {m : List Ev} {e : Ev} {i : Nat} (h : i < m.length) : evA0 (m ++ [e]) i = evA0 m i := by
  unfold evA0
  rw [List.getD_eq_getElem?_getD, List.getD_eq_getElem?_getD, List.getElem?_append_left h]
theorem evA0_new {m : List Ev} {e : Ev} : evA0 (m ++ [e]) m.length = e := by
  unfold evA0
  rw [List.getD_eq_getElem?_getD, List.getElem?_append_right (Nat.le_refl _), Nat.sub_self]; rfl
theorem opn_iff {l : List Ev} {b i : Nat} : opn l b i = true ↔ ∀ j, b < j → j ≤ i → (evA0 l j).th = (evA0 l b).th → (evA0 l j).kind ≠ 1 := by
  unfold opn
  rw [List.all_eq_true]
  constructor
  · intro h j h1 h2 h3 h4
    have := h j (List.mem_range.2 (by omega))
    simp [h1, h3, h4] at this
  · intro h j hj
    have hj' := List.mem_range.1 hj
    by_cases h1 : b < j
    · by_cases h3 : (evA0 l j).th = (evA0 l b).th
      · have := h j h1 (by omega) h3
        simp [this]
      · simp [h3]
    · simp [h1]
theorem isM_iff {l : List Ev} {b i : Nat} : isM l b i = true ↔ b ≤ i ∧ (evA0 l i).th = (evA0 l b).th ∧ (evA0 l i).kind ≠ 13 ∧ ∀ j, b < j → j ≤ i → (evA0 l j).th = (evA0 l b).th → (evA0 l j).kind ≠ 1 := by
  unfold isM
  simp only [Bool.and_eq_true, opn_iff, Bool.not_eq_true', decide_eq_true_eq, decide_eq_false_iff_not]
  constructor
  · rintro ⟨⟨⟨h1, h2⟩, h3⟩, h4⟩; exact ⟨h1, h2, h3, h4⟩
  · rintro ⟨h1, h2, h3, h4⟩; exact ⟨⟨⟨h1, h2⟩, h3⟩, h4⟩
theorem isM_old {m : List Ev} {e : Ev} {b i : Nat} (h : i < m.length) : isM (m ++ [e]) b i = isM m b i := by
  rw [Bool.eq_iff_iff, isM_iff, isM_iff, evA0_old h]
  constructor
  · rintro ⟨h1, h2, h3, h4⟩
    rw [evA0_old (show b < m.length by omega)] at h2 h4
    exact ⟨h1, h2, h3, fun j a1 a2 a3 => by have := h4 j a1 a2; rw [evA0_old (show j < m.length by omega)] at this; exact this a3⟩
  · rintro ⟨h1, h2, h3, h4⟩
    rw [evA0_old (show b < m.length by omega)]
    exact ⟨h1, h2, h3, fun j a1 a2 a3 => by rw [evA0_old (show j < m.length by omega)] at a3 ⊢; exact h4 j a1 a2 a3⟩
theorem begs_snoc (m : List Ev) (e : Ev) : begs (m ++ [e]) = begs m ++ if e.kind = 1 then [m.length] else [] := by
  unfold begs
  rw [List.length_append, List.length_singleton, List.range_succ, List.filter_append]
  congr 1
  · refine List.filter_congr fun i hi => ?_
    unfold isB
    rw [evA0_old (List.mem_range.1 hi)]
  · have : isB (m ++ [e]) m.length = decide (e.kind = 1) := by unfold isB; rw [evA0_new]
    rw [List.filter_cons, List.filter_nil, this]
    by_cases h : e.kind = 1 <;> simp [h]
theorem mineP_snoc (m : List Ev) (e : Ev) (b : Nat) : mineP (m ++ [e]) b = mineP m b ++ if isM (m ++ [e]) b m.length = true then [m.length] else [] := by
  unfold mineP
  rw [List.length_append, List.length_singleton, List.range_succ, List.filter_append]
  congr 1
  · exact List.filter_congr fun i hi => isM_old (List.mem_range.1 hi)
  · rw [List.filter_cons, List.filter_nil]
theorem mem_mineP {l : List Ev} {b i : Nat} : i ∈ mineP l b ↔ i < l.length ∧ isM l b i = true := by unfold mineP; rw [List.mem_filter, List.mem_range]
theorem mem_begs {l : List Ev} {i : Nat} : i ∈ begs l ↔ i < l.length ∧ (evA0 l i).kind = 1 := by unfold begs isB; rw [List.mem_filter, List.mem_range, decide_eq_true_eq]
theorem foldG_congr {l l' : List Ev} : ∀ (m : List Nat) (f : FR), (∀ i ∈ m, evA0 l i = evA0 l' i) → foldG l f m = foldG l' f m
  | [], f, _ => rfl
  | i :: m, f, h => by
    show foldG l (stF f (evA0 l i)) m = foldG l' (stF f (evA0 l' i)) m
    rw [h i (List.mem_cons_self ..)]
    exact foldG_congr m _ fun j hj => h j (List.mem_cons_of_mem _ hj)
theorem foldG_snoc (l : List Ev) (f : FR) (m : List Nat) (i : Nat) : foldG l f (m ++ [i]) = stF (foldG l f m) (evA0 l i) := by unfold foldG; rw [List.foldl_append]; rfl
theorem begF_old {m : List Ev} {e : Ev} {b : Nat} (hb : b < m.length) : begF (m ++ [e]) b = begF m b := by unfold begF; rw [evA0_old hb]
theorem foldR_snoc {m : List Ev} {e : Ev} {b : Nat} (hb : b < m.length) : foldR (m ++ [e]) b = if isM (m ++ [e]) b m.length = true then stF (foldR m b) e else foldR m b := by
  unfold foldR
  have h1 : foldG (m ++ [e]) (begF m b) (mineP m b) = foldG m (begF m b) (mineP m b) := foldG_congr _ _ fun i hi => evA0_old (mem_mineP.1 hi).1
  rw [mineP_snoc, begF_old hb]
  split
  · rw [foldG_snoc, h1, evA0_new]
  · rw [List.append_nil, h1]
theorem lastM_lt {m : List Ev} {b : Nat} (hb : b < m.length) : lastM m b < m.length := by
  unfold lastM
  rcases List.eq_nil_or_concat (mineP m b) with h | ⟨L, x, h⟩
  · rw [h]; show 0 < _; omega
  · have hx : x ∈ mineP m b := by rw [h]; simp
    rw [h, List.concat_eq_append, List.getLastD_eq_getLast?, List.getLast?_append]
    exact (mem_mineP.1 hx).1
theorem att_no {m : List Ev} {e : Ev} {b : Nat} (hb : b < m.length) (h : isM (m ++ [e]) b m.length = false) : attR (m ++ [e]) b = attR m b := by
  have h1 : lastM (m ++ [e]) b = lastM m b := by unfold lastM; rw [mineP_snoc, h]; simp
  unfold attR
  rw [foldR_snoc hb, h, h1, evA0_old (lastM_lt hb)]
  simp
theorem att_yes {m : List Ev} {e : Ev} {b : Nat} (hb : b < m.length) (h : isM (m ++ [e]) b m.length = true) :
    attR (m ++ [e]) b = { (stF (foldR m b) e).a with to_ := if endR e.kind (stF (foldR m b) e).lk (stF (foldR m b) e).gn = true then (m.length : Int) else -1 } := by
  have h1 : lastM (m ++ [e]) b = m.length := by
    unfold lastM
    rw [mineP_snoc, if_pos h, List.getLastD_eq_getLast?, List.getLast?_append]; rfl
  unfold attR
  rw [foldR_snoc hb, if_pos h, h1, evA0_new]
theorem att_new {m : List Ev} {e : Ev} (h1 : e.kind = 1) : attR (m ++ [e]) m.length = newA e m.length ∧ foldR (m ++ [e]) m.length = ⟨newA e m.length, 0, 0⟩ := by
  have hM : mineP (m ++ [e]) m.length = [m.length] := by
    have h0 : mineP m m.length = [] := by
      unfold mineP
      rw [List.filter_eq_nil_iff]
      intro i hi
      have := List.mem_range.1 hi
      unfold isM
      simp [show ¬ m.length ≤ i by omega]
    rw [mineP_snoc, h0, if_pos (isM_iff.2 ⟨Nat.le_refl _, rfl, by rw [evA0_new]; omega, fun j a b => by omega⟩)]; rfl
  have hF : foldR (m ++ [e]) m.length = ⟨newA e m.length, 0, 0⟩ := by
    unfold foldR foldG begF
    rw [hM, evA0_new]
    show stF _ (evA0 (m ++ [e]) m.length) = _
    rw [evA0_new]
    unfold stF
    simp [h1]
  refine ⟨?_, hF⟩
  have hl : lastM (m ++ [e]) m.length = m.length := by unfold lastM; rw [hM]; rfl
  unfold attR
  rw [hF, hl, evA0_new]
  have : endR e.kind 0 0 = false := by unfold endR; simp [h1]
  simp only [this]
  rfl
/-- Only reads, writes, the commit and its version turn. -/
theorem foldR_th (l : List Ev) (b : Nat) : (foldR l b).a.th = (evA0 l b).th := by
  have : ∀ (m : List Nat) (f : FR), (foldG l f m).a.th = f.a.th := by
    intro m
    induction m with
    | nil => intro f; rfl
    | cons i m ih =>
      intro f
      show (foldG l (stF f (evA0 l i)) m).a.th = _
      rw [ih]
      unfold stF
      repeat' split
      all_goals rfl
  exact this _ _
theorem attR_th (l : List Ev) (b : Nat) : (attR l b).th = (evA0 l b).th := foldR_th l b
theorem begs_up (l : List Ev) : (begs l).Pairwise (· < ·) := List.Pairwise.filter _ (List.pairwise_lt_range)
theorem begs_lt {l : List Ev} {n n' b b' : Nat} (h : (begs l)[n]? = some b) (h' : (begs l)[n']? = some b') (hlt : b < b') : n < n' := by
  obtain ⟨q, rfl⟩ := List.getElem?_eq_some_iff.1 h
  obtain ⟨q', rfl⟩ := List.getElem?_eq_some_iff.1 h'
  rcases Nat.lt_trichotomy n n' with h1 | h1 | h1
  · exact h1
  · subst h1; omega
  · have := (List.pairwise_iff_getElem.1 (begs_up l)) n' n q' q h1; omega
theorem begs_mono {l : List Ev} {n n' b b' : Nat} (h : (begs l)[n]? = some b) (h' : (begs l)[n']? = some b') (hlt : n < n') : b < b' := by
  obtain ⟨q, rfl⟩ := List.getElem?_eq_some_iff.1 h
  obtain ⟨q', rfl⟩ := List.getElem?_eq_some_iff.1 h'
  exact (List.pairwise_iff_getElem.1 (begs_up l)) n n' q q' hlt

/-- What is the same behind a well-formed row of events. -/
structure RInv (s : Sh) (m : List Ev) : Prop where
  out : (histT m).out = ofR m
  own : ∀ (n b : Nat), (begs m)[n]? = some b → (histT m).owned[n]? = some ((foldR m b).lk - (foldR m b).gn)
  gn : ∀ i, i < s.ths.length → 1 ≤ (s.ths.getD i Th.zero).at_ → (s.ths.getD i Th.zero).at_ ≤ 4 → ∀ (b : Nat), (begs m)[(histT m).last i]? = some b → (foldR m b).gn = 0
theorem histT_snoc (m : List Ev) (e : Ev) : histT (m ++ [e]) = stepH (histT m) m.length e := by unfold histT; rw [histF_snoc, Int.zero_add]
theorem RInv.att {s : Sh} {m : List Ev} (h : RInv s m) {n b : Nat} (hb : (begs m)[n]? = some b) : (histT m).out[n]? = some (attR m b) := by
  rw [h.out]; unfold ofR; rw [List.getElem?_map, hb]; rfl
theorem RInv.beg {s : Sh} {m : List Ev} (h : RInv s m) {n : Nat} {a : Att} (ha : (histT m).out[n]? = some a) : ∃ b, (begs m)[n]? = some b ∧ a = attR m b := by
  rw [h.out] at ha; unfold ofR at ha; rw [List.getElem?_map, Option.map_eq_some_iff] at ha
  obtain ⟨b, h1, h2⟩ := ha
  exact ⟨b, h1, h2.symm⟩
/-- An event that neither begins nor wakes is of its thread's last attempt, and of no other. -/
theorem isM_last {s : Sh} {m : List Ev} (h : RInv s m) (hi : HI s (histT m) m.length) {e : Ev} (k1 : e.kind ≠ 1) (k13 : e.kind ≠ 13) {a : Att} (ha : (histT m).out[(histT m).last e.th]? = some a) (hth : a.th = e.th)
    (hlast : ∀ (q : Nat) (c : Att), (histT m).last e.th < q → (histT m).out[q]? = some c → c.th ≠ e.th) {n b : Nat} (hb : (begs m)[n]? = some b) : isM (m ++ [e]) b m.length = true ↔ n = (histT m).last e.th := by
  obtain ⟨b0, hb0, rfl⟩ := h.beg ha
  rw [attR_th] at hth
  have hbm := mem_begs.1 (List.mem_of_getElem? hb)
  have hb0m := mem_begs.1 (List.mem_of_getElem? hb0)
  rw [isM_iff, evA0_new, evA0_old hbm.1]
  constructor
  · rintro ⟨-, h2, -, h4⟩
    rcases Nat.lt_trichotomy n ((histT m).last e.th) with hl | hl | hl
    · exfalso
      have hlt := begs_mono hb hb0 hl
      have := h4 b0 hlt (by omega)
      rw [evA0_old hb0m.1] at this
      exact this (hth.trans h2) hb0m.2
    · exact hl
    · exfalso
      have := hlast n _ hl (h.att hb)
      rw [attR_th] at this
      exact this h2.symm
  · rintro rfl
    obtain rfl : b = b0 := by rw [hb] at hb0; exact Option.some.inj hb0
    refine ⟨by omega, hth.symm, k13, fun j h1 h2 h3 => ?_⟩
    by_cases hj : j = m.length
    · subst hj; rw [evA0_new]; exact k1
    · have hjm : j < m.length := by omega
      rw [evA0_old hjm] at h3 ⊢
      intro hk
      obtain ⟨q, hq⟩ := List.getElem?_of_mem (mem_begs.2 ⟨hjm, hk⟩)
      have hlt := begs_lt hb hq h1
      have := hlast q _ hlt (h.att hq)
      rw [attR_th] at this
      exact this (h3.trans hth)
theorem turn_eq (f : FR) (e : Ev) (n : Int) (hg : e.kind = 7 ∨ e.kind = 10 → f.gn = 0) :
    ({ (stF f e).a with to_ := if endR e.kind (stF f e).lk (stF f e).gn = true then n else -1 } : Att) = turnA { f.a with to_ := -1 } (f.lk - f.gn) e n ∧ (stF f e).lk - (stF f e).gn = turnO (f.lk - f.gn) e := by
  unfold turnA turnO
  by_cases k3 : e.kind = 3
  · have h1 : stF f e = { f with a := { f.a with reads := f.a.reads ++ [(e.at_, e.x)] } } := by unfold stF; rw [if_pos k3]
    rw [h1, if_pos k3]
    simp [endR, k3]
  · by_cases k8 : e.kind = 8
    · have h1 : stF f e = { f with a := { f.a with writes := f.a.writes ++ [(e.at_, e.x)] } } := by unfold stF; rw [if_neg k3, if_pos k8]
      rw [h1, if_neg k3, if_pos k8]
      simp [endR, k8]
    · by_cases k7 : e.kind = 7
      · have h1 : stF f e = { f with a := { f.a with com := true, wv := e.v } } := by unfold stF; rw [if_neg k3, if_neg k8, if_pos k7]
        have g0 := hg (Or.inl k7)
        rw [h1, if_neg k3, if_neg k8, if_pos k7]
        simp [endR, k7, g0]
      · by_cases k4 : e.kind = 4
        · have h1 : stF f e = { f with lk := f.lk + 1 } := by unfold stF; rw [if_neg k3, if_neg k8, if_neg k7, if_pos k4]
          rw [h1]
          simp [endR, k4]
          omega
        · by_cases k9 : e.kind = 9 ∨ e.kind = 11
          · have h1 : stF f e = { f with gn := f.gn + 1 } := by unfold stF; rw [if_neg k3, if_neg k8, if_neg k7, if_neg k4, if_pos k9]
            rw [h1, if_neg k3, if_neg k8, if_neg k7, if_pos k9, if_neg k4, if_pos k9]
            have e2 : endR e.kind f.lk (f.gn + 1) = decide (f.lk - f.gn - 1 = 0) := by
              unfold endR
              rw [Bool.eq_iff_iff]
              simp only [Bool.or_eq_true, decide_eq_true_eq]
              omega
            refine ⟨?_, by show f.lk - (f.gn + 1) = _; omega⟩
            simp only [e2, decide_eq_true_eq]
          · have h1 : stF f e = f := by unfold stF; rw [if_neg k3, if_neg k8, if_neg k7, if_neg k4, if_neg k9]
            rw [h1, if_neg k3, if_neg k8, if_neg k7, if_neg k9, if_neg k4, if_neg k9]
            refine ⟨?_, rfl⟩
            by_cases k10 : e.kind = 10
            · have g0 := hg (Or.inr k10)
              rw [if_pos k10]
              simp [endR, k10, g0]
            · rw [if_neg k10]
              by_cases k12 : e.kind = 12
              · rw [if_pos k12]; simp [endR, k12]
              · rw [if_neg k12]
                have e3 : endR e.kind f.lk f.gn = false := by
                  unfold endR
                  rw [Bool.or_eq_false_iff, Bool.or_eq_false_iff, decide_eq_false_iff_not, decide_eq_false_iff_not, decide_eq_false_iff_not]
                  omega
                simp [e3]
theorem rinv_step {s s' : Sh} {m : List Ev} {e : Ev} (hw : Wf s) (hi : HI s (histT m) m.length) (h : RInv s m) (hs : stepS s e = some s') : RInv s' (m ++ [e]) := by
  obtain ⟨th, t', hthe, hlt, hths, _, _, hmv, _, _⟩ := at_step hw hs
  have gEq : s'.ths.getD th Th.zero = t' := by rw [hths]; exact getD_set_eq _ _ _ _ hlt
  have gNe : ∀ i, i ≠ th → s'.ths.getD i Th.zero = s.ths.getD i Th.zero := fun i hne => by rw [hths]; exact getD_set_ne _ _ _ _ _ (fun e => hne e.symm)
  have hT : s'.ths.length = s.ths.length := by rw [hths, List.length_set]
  have hol : (histT m).out.length = (begs m).length := by rw [h.out]; unfold ofR; rw [List.length_map]
  have hbl : ∀ {n b : Nat}, (begs m)[n]? = some b → b < m.length := fun hb => (mem_begs.1 (List.mem_of_getElem? hb)).1
  by_cases k1 : e.kind = 1
  · have hno : ∀ {b : Nat}, b < m.length → isM (m ++ [e]) b m.length = false := fun {b} hb => by
      rw [Bool.eq_false_iff]
      intro hc
      obtain ⟨_, h2, _, h4⟩ := isM_iff.1 hc
      exact h4 m.length hb (Nat.le_refl _) h2 (by rw [evA0_new]; exact k1)
    have hst : histT (m ++ [e]) = ⟨updN (histT m).last e.th (histT m).out.length, (histT m).out ++ [newA e m.length], (histT m).owned ++ [0]⟩ := by rw [histT_snoc]; unfold stepH; rw [if_pos k1]
    have hbg : begs (m ++ [e]) = begs m ++ [m.length] := by rw [begs_snoc, if_pos k1]
    obtain ⟨n1, n2⟩ := att_new (m := m) k1
    have hmap : (begs m).map (attR (m ++ [e])) = (begs m).map (attR m) := List.map_congr_left fun b hb => att_no (mem_begs.1 hb).1 (hno (mem_begs.1 hb).1)
    constructor
    · rw [hst]
      unfold ofR
      rw [hbg, List.map_append, hmap]
      show (histT m).out ++ [newA e m.length] = _
      rw [h.out, List.map_cons, List.map_nil, n1]; rfl
    · intro n b hb
      rw [hbg] at hb
      rw [hst]
      show ((histT m).owned ++ [0])[n]? = _
      rcases getElem?_snoc_cases hb with ⟨rfl, rfl⟩ | ⟨hn, hb⟩
      · rw [List.getElem?_append_right (by rw [hi.len, hol]; exact Nat.le_refl _), hi.len, hol, Nat.sub_self, n2]; rfl
      · have hbm := hbl hb
        rw [List.getElem?_append_left (by rw [hi.len, hol]; exact hn), h.own n b hb, foldR_snoc hbm, hno hbm]
        simp
    · intro i hil a1 a2 b hb
      rw [hbg, hst] at hb
      rcases getElem?_snoc_cases hb with ⟨_, rfl⟩ | ⟨hn, hb⟩
      · rw [n2]
      · have hbm := hbl hb
        rw [foldR_snoc hbm, hno hbm]
        simp only [Bool.false_eq_true, if_false]
        by_cases hit : i = th
        · exfalso
          subst hit
          have hu : (updN (histT m).last e.th (histT m).out.length) (i : Int) = (histT m).out.length := by unfold updN; rw [if_pos hthe.symm]
          simp only [hu] at hb hn
          omega
        · have hu : (updN (histT m).last e.th (histT m).out.length) (i : Int) = (histT m).last i := by unfold updN; rw [if_neg (by rw [hthe]; omega)]
          simp only [hu] at hb
          rw [gNe i hit] at a1 a2
          exact h.gn i (by omega) a1 a2 b hb
  by_cases k13 : e.kind = 13
  · have hno : ∀ {b : Nat}, b < m.length → isM (m ++ [e]) b m.length = false := fun {b} hb => by
      rw [Bool.eq_false_iff]
      intro hc
      obtain ⟨_, _, h3, _⟩ := isM_iff.1 hc
      rw [evA0_new] at h3
      exact h3 k13
    have hst : histT (m ++ [e]) = histT m := by rw [histT_snoc]; unfold stepH; rw [if_neg k1, if_pos k13]
    have hbg : begs (m ++ [e]) = begs m := by rw [begs_snoc, if_neg k1, List.append_nil]
    constructor
    · rw [hst, h.out]
      unfold ofR
      rw [hbg]
      exact (List.map_congr_left fun b hb => att_no (mem_begs.1 hb).1 (hno (mem_begs.1 hb).1)).symm
    · intro n b hb
      rw [hbg] at hb
      rw [hst, h.own n b hb, foldR_snoc (hbl hb), hno (hbl hb)]
      simp
    · intro i hil a1 a2 b hb
      rw [hbg, hst] at hb
      rw [foldR_snoc (hbl hb), hno (hbl hb)]
      simp only [Bool.false_eq_true, if_false]
      have hit : i ≠ th := by
        rintro rfl
        rw [gEq] at a1 a2
        unfold Moves at hmv
        omega
      rw [gNe i hit] at a1 a2
      exact h.gn i (by omega) a1 a2 b hb
  obtain ⟨a, o, h1, h2, h3, h4, h5⟩ := hi_mid hw hi hs k1 k13
  have hlast : ∀ (q : Nat) (c : Att), (histT m).last e.th < q → (histT m).out[q]? = some c → c.th ≠ e.th := by
    rcases hi.thr th hlt with ⟨h6, -, -⟩ | ⟨a', o', -, -, -, h6, -⟩
    · exact absurd (h3.trans hthe) (h6 _ _ h1)
    · rw [hthe]; exact h6
  have hM : ∀ {n b : Nat}, (begs m)[n]? = some b → (isM (m ++ [e]) b m.length = true ↔ n = (histT m).last e.th) := fun hb => isM_last h hi k1 k13 h1 h3 hlast hb
  obtain ⟨b0, hb0, rfl⟩ := h.beg h1
  have hb0m := hbl hb0
  have hy : isM (m ++ [e]) b0 m.length = true := (hM hb0).2 rfl
  have hst : histT (m ++ [e]) = ⟨(histT m).last, (histT m).out.set ((histT m).last e.th) (turnA (attR m b0) o e m.length), (histT m).owned.set ((histT m).last e.th) (turnO o e)⟩ := by
    rw [histT_snoc]; unfold stepH; rw [if_neg k1, if_neg k13, getD_of_get? h1, getD_of_get? h2]
  have hbg : begs (m ++ [e]) = begs m := by rw [begs_snoc, if_neg k1, List.append_nil]
  have ho : o = (foldR m b0).lk - (foldR m b0).gn := by have := h.own _ _ hb0; rw [h2] at this; exact Option.some.inj this
  have hg0 : e.kind = 7 ∨ e.kind = 10 → (foldR m b0).gn = 0 := fun hk => by
    refine h.gn th hlt ?_ ?_ b0 (by rw [← hthe]; exact hb0)
    all_goals (unfold Moves at hmv; omega)
  obtain ⟨q1, q2⟩ := turn_eq (foldR m b0) e m.length hg0
  have ha0 : attR m b0 = { (foldR m b0).a with to_ := -1 } := by
    have : (attR m b0).to_ = -1 := h4
    have e1 : attR m b0 = { (foldR m b0).a with to_ := (attR m b0).to_ } := rfl
    rw [e1, this]
  have hkl : (histT m).last e.th < (histT m).out.length := (List.getElem?_eq_some_iff.1 h1).1
  constructor
  · rw [hst]
    show (histT m).out.set _ _ = ofR (m ++ [e])
    unfold ofR
    rw [hbg]
    refine List.ext_getElem? fun n => ?_
    rw [List.getElem?_map]
    by_cases hn : n = (histT m).last e.th
    · subst hn
      rw [List.getElem?_set_self hkl, hb0]
      show _ = some (attR (m ++ [e]) b0)
      rw [att_yes hb0m hy, q1, ho, ← ha0]
    · rw [List.getElem?_set_ne (fun e => hn e.symm), h.out]
      unfold ofR
      rw [List.getElem?_map]
      cases hb : (begs m)[n]? with
      | none => rfl
      | some b =>
        have hf : isM (m ++ [e]) b m.length = false := by rw [Bool.eq_false_iff]; exact fun hc => hn ((hM hb).1 hc)
        show some _ = some _
        rw [att_no (hbl hb) hf]
  · intro n b hb
    rw [hbg] at hb
    rw [hst]
    show ((histT m).owned.set _ _)[n]? = _
    by_cases hn : n = (histT m).last e.th
    · subst hn
      obtain rfl : b0 = b := by rw [hb0] at hb; exact Option.some.inj hb
      rw [List.getElem?_set_self (by rw [hi.len]; exact hkl), foldR_snoc hb0m, if_pos hy, q2, ho]
    · have hf : isM (m ++ [e]) b m.length = false := by rw [Bool.eq_false_iff]; exact fun hc => hn ((hM hb).1 hc)
      rw [List.getElem?_set_ne (fun e => hn e.symm), h.own n b hb, foldR_snoc (hbl hb), hf]
      simp
  · intro i hil a1 a2 b hb
    rw [hbg, hst] at hb
    have hb : (begs m)[(histT m).last i]? = some b := hb
    by_cases hit : i = th
    · subst hit
      rw [gEq] at a1 a2
      rw [← hthe] at hb
      obtain rfl : b0 = b := by rw [hb0] at hb; exact Option.some.inj hb
      have hk : e.kind ≠ 9 ∧ e.kind ≠ 11 ∧ 1 ≤ (s.ths.getD i Th.zero).at_ ∧ (s.ths.getD i Th.zero).at_ ≤ 4 := by unfold Moves at hmv; omega
      have hgn := h.gn i hlt hk.2.2.1 hk.2.2.2 b0 (by rw [← hthe]; exact hb0)
      rw [foldR_snoc hb0m, if_pos hy]
      unfold stF
      repeat' split
      all_goals first | exact hgn | omega
    · have hf : isM (m ++ [e]) b m.length = false := by
        rw [Bool.eq_false_iff]
        intro hc
        have he := (hM hb).1 hc
        rw [gNe i hit] at a1
        rcases hi.thr i (by omega) with ⟨_, h7, _⟩ | ⟨a', o', h6, _, h7, _⟩
        · omega
        · rw [he, h1] at h6
          have := Option.some.inj h6
          rw [← this, h3, hthe] at h7
          omega
      rw [foldR_snoc (hbl hb), hf]
      simp only [Bool.false_eq_true, if_false]
      rw [gNe i hit] at a1 a2
      exact h.gn i (by omega) a1 a2 b hb
theorem Hist.rinv {T V S : Int} {l : List Ev} {s : Sh} (h : Hist T V S l s) : RInv s l := by
  have key : ∀ k, k ≤ l.length → ∀ r, Hist T V S (l.take k) r → RInv r (l.take k) := by
    intro k
    induction k with
    | zero =>
      intro _ r hr
      have hn : (l.take 0) = [] := rfl
      rw [hn] at hr ⊢
      exact ⟨rfl, fun n b hb => (by simp [begs] at hb), fun i _ _ _ b hb => (by simp [begs] at hb)⟩
    | succ k ih =>
      intro hk r hr
      obtain ⟨r0, r1, g0, g1, g2⟩ := h.step (k := k) hk
      have hr1 : r1 = r := by have := g2.run; rw [hr.run] at this; exact (Option.some.inj this).symm
      subst hr1
      have hI := g0.hi
      rw [List.take_succ_eq_append_getElem hk]
      exact rinv_step g0.wf hI (ih (by omega) r0 g0) g1
  have := key l.length (Nat.le_refl _) s (by rw [List.take_length]; exact h)
  rwa [List.take_length] at this
/-- The attempts of a well-formed trace are the document's. -/
theorem Hist.ofR {T V S : Int} {l : List Ev} {s : Sh} (h : Hist T V S l s) : (histT l).out = ofR l := h.rinv.out
theorem evA0_app {m r : List Ev} {i : Nat} (h : i < m.length) : evA0 (m ++ r) i = evA0 m i := by
  unfold evA0
  rw [List.getD_eq_getElem?_getD, List.getD_eq_getElem?_getD, List.getElem?_append_left h]
theorem isM_app {m r : List Ev} {b i : Nat} (h : i < m.length) : isM (m ++ r) b i = isM m b i := by
  rw [Bool.eq_iff_iff, isM_iff, isM_iff, evA0_app h]
  constructor
  · rintro ⟨h1, h2, h3, h4⟩
    rw [evA0_app (show b < m.length by omega)] at h2 h4
    exact ⟨h1, h2, h3, fun j a1 a2 a3 => by have := h4 j a1 a2; rw [evA0_app (show j < m.length by omega)] at this; exact this a3⟩
  · rintro ⟨h1, h2, h3, h4⟩
    rw [evA0_app (show b < m.length by omega)]
    exact ⟨h1, h2, h3, fun j a1 a2 a3 => by rw [evA0_app (show j < m.length by omega)] at a3 ⊢; exact h4 j a1 a2 a3⟩
theorem begs_app (m : List Ev) : ∀ r : List Ev, ∃ t, begs (m ++ r) = begs m ++ t := by
  intro r
  induction r generalizing m with
  | nil => exact ⟨[], by simp⟩
  | cons e r ih =>
    obtain ⟨t, ht⟩ := ih (m ++ [e])
    rw [List.append_assoc, List.singleton_append] at ht
    exact ⟨_, by rw [ht, begs_snoc, List.append_assoc]⟩
theorem begs_inj {l : List Ev} {n n' b : Nat} (h : (begs l)[n]? = some b) (h' : (begs l)[n']? = some b) : n = n' := by
  rcases Nat.lt_trichotomy n n' with h1 | h1 | h1
  · have := begs_mono h h' h1; omega
  · exact h1
  · have := begs_mono h' h h1; omega
/-- An event is of the k-th attempt if it is one of its events. -/
theorem Hist.of_iff {T V S : Int} {l : List Ev} {s : Sh} (h : Hist T V S l s) {i : Nat} (hi : i < l.length) {n b : Nat} (hb : (begs l)[n]? = some b) : isM l b i = true ↔ ofI l i = n := by
  obtain ⟨r, r', hr, hs, hr'⟩ := h.step hi
  have hlen : (l.take i).length = i := by rw [List.length_take, Nat.min_eq_left (Nat.le_of_lt hi)]
  have hI := hr.hi
  have hR := hr.rinv
  have hbk := mem_begs.1 (List.mem_of_getElem? hb)
  have e1 : l = (l.take i ++ [l[i]]) ++ l.drop (i + 1) := by rw [← List.take_succ_eq_append_getElem hi, List.take_append_drop]
  have hMe : isM l b i = isM (l.take i ++ [l[i]]) b i := by
    conv => lhs; rw [e1]
    exact isM_app (by rw [List.length_append, hlen]; simp)
  have hee : evA0 l i = l[i] := by unfold evA0; rw [List.getD_eq_getElem?_getD, List.getElem?_eq_getElem hi]; rfl
  obtain ⟨t, ht⟩ := begs_app (l.take i ++ [l[i]]) (l.drop (i + 1))
  rw [← e1, begs_snoc, hlen] at ht
  rw [ofI_eq hi]
  unfold ofH
  have hol : (histT (l.take i)).out.length = (begs (l.take i)).length := by rw [hR.out]; unfold Go.Proofs.YtcddlnmcjmhbcaaDoor.ofR; rw [List.length_map]
  by_cases k1 : l[i].kind = 1
  · rw [if_pos k1, hol]
    rw [if_pos k1] at ht
    have hbi : (begs l)[(begs (l.take i)).length]? = some i := by
      rw [ht, List.append_assoc, List.getElem?_append_right (Nat.le_refl _), Nat.sub_self]; rfl
    constructor
    · intro hc
      obtain ⟨h1, h2, _, h4⟩ := isM_iff.1 hc
      have : b = i := by
        rcases Nat.lt_or_eq_of_le h1 with h5 | h5
        · exact absurd (by rw [hee]; exact k1) (h4 i h5 (Nat.le_refl _) h2)
        · exact h5
      subst this
      rw [begs_inj hbi hb]
    · intro hc
      have : n = (begs (l.take i)).length := by omega
      subst this
      rw [hbi] at hb
      obtain rfl := Option.some.inj hb
      exact isM_iff.2 ⟨Nat.le_refl _, rfl, by rw [hee]; omega, fun j a1 a2 => by omega⟩
  · rw [if_neg k1]
    by_cases k13 : l[i].kind = 13
    · rw [if_pos k13]
      constructor
      · intro hc
        obtain ⟨_, _, h3, _⟩ := isM_iff.1 hc
        exact absurd (by rw [hee]; exact k13) h3
      · intro hc; omega
    · rw [if_neg k13]
      obtain ⟨a, o, h1, h2, h3, h4, h5⟩ := hi_mid hr.wf hI hs k1 k13
      obtain ⟨th, t', hthe, hlt, _, _, _, _, _, _⟩ := at_step hr.wf hs
      have hlast : ∀ (q : Nat) (c : Att), (histT (l.take i)).last l[i].th < q → (histT (l.take i)).out[q]? = some c → c.th ≠ l[i].th := by
        rcases hI.thr th hlt with ⟨h6, -, -⟩ | ⟨a', o', -, -, -, h6, -⟩
        · exact absurd (h3.trans hthe) (h6 _ _ h1)
        · rw [hthe]; exact h6
      rw [if_neg k1, List.append_nil] at ht
      obtain ⟨b0, hb0, rfl⟩ := hR.beg h1
      have hb0l : (begs l)[(histT (l.take i)).last l[i].th]? = some b0 := by
        rw [ht, List.getElem?_append_left (List.getElem?_eq_some_iff.1 hb0).1]; exact hb0
      have hb0i : b0 < i := by have := (mem_begs.1 (List.mem_of_getElem? hb0)).1; omega
      have hcast : (((histT (l.take i)).last l[i].th : Nat) : Int) = (n : Int) ↔ n = (histT (l.take i)).last l[i].th := by omega
      rw [hcast]
      by_cases hbi : b < i
      · have hbm : b ∈ begs (l.take i) := by
          refine mem_begs.2 ⟨by omega, ?_⟩
          have h6 := hbk.2
          rw [e1, List.append_assoc, evA0_app (by omega)] at h6
          exact h6
        obtain ⟨n', hn'⟩ := List.getElem?_of_mem hbm
        have hn'l : (begs l)[n']? = some b := by rw [ht, List.getElem?_append_left (List.getElem?_eq_some_iff.1 hn').1]; exact hn'
        have := begs_inj hn'l hb
        subst this
        rw [hMe]
        have h7 := isM_last hR hI k1 k13 h1 h3 hlast hn'
        rw [hlen] at h7
        exact h7
      · constructor
        · intro hc
          have := (isM_iff.1 hc).1
          have hbe : b = i := by omega
          subst hbe
          rw [hee] at hbk
          exact absurd hbk.2 k1
        · intro hc
          subst hc
          rw [hb0l] at hb
          have := Option.some.inj hb
          omega

/-! ### Which attempt each event is of, as the document tells it -/
def setsR (o : List Int) (m : List Nat) (n : Int) : List Int := m.foldl (fun o i => o.set i n) o
def stepK (l : List Ev) (p : List Int × Int) (b : Nat) : List Int × Int := if isB l b = true then (setsR p.1 (mineP l b) p.2, p.2 + 1) else p
def splitK (l : List Ev) (k : Nat) : List Int × Int := (List.range k).foldl (stepK l) (List.replicate l.length (-1), 0)
theorem splitK_succ (l : List Ev) (k : Nat) : splitK l (k + 1) = stepK l (splitK l k) k := by
  unfold splitK; rw [List.range_succ, List.foldl_append]; rfl
theorem setsR_len : ∀ (m : List Nat) (o : List Int) (n : Int), (setsR o m n).length = o.length
  | [], o, n => rfl
  | i :: m, o, n => by
    show (setsR (o.set i n) m n).length = _
    rw [setsR_len m, List.length_set]
theorem setsR_get (n : Int) (i : Nat) : ∀ (m : List Nat) (o : List Int), i < o.length → (setsR o m n)[i]? = if i ∈ m then some n else o[i]?
  | [], o, h => by simp [setsR]
  | j :: m, o, h => by
    show (setsR (o.set j n) m n)[i]? = _
    rw [setsR_get n i m _ (by rw [List.length_set]; exact h)]
    by_cases h1 : i ∈ m
    · simp [h1]
    · by_cases h2 : j = i
      · subst h2; simp [h1, h]
      · simp [h1, h2]
        intro e; exact absurd e.symm h2
theorem splitK_len (l : List Ev) : ∀ k, (splitK l k).1.length = l.length
  | 0 => by simp [splitK]
  | k + 1 => by
    rw [splitK_succ]
    unfold stepK
    split
    · rw [setsR_len]; exact splitK_len l k
    · exact splitK_len l k
theorem splitK_n (l : List Ev) : ∀ k, (splitK l k).2 = (((List.range k).filter (isB l)).length : Int)
  | 0 => rfl
  | k + 1 => by
    rw [splitK_succ, List.range_succ, List.filter_append, List.length_append, List.filter_cons, List.filter_nil]
    unfold stepK
    cases isB l k with
    | true => simp [splitK_n l k]
    | false => simp [splitK_n l k]
theorem range_filter_take {p : Nat → Bool} : ∀ {n k : Nat}, k < n → p k = true → ((List.range n).filter p)[((List.range k).filter p).length]? = some k
  | 0, k, h, _ => absurd h (Nat.not_lt_zero _)
  | n + 1, k, h, hp => by
    rw [List.range_succ, List.filter_append]
    by_cases he : k = n
    · subst he
      rw [List.getElem?_append_right (Nat.le_refl _), Nat.sub_self, List.filter_cons, if_pos hp]; rfl
    · have h1 := range_filter_take (p := p) (n := n) (k := k) (by omega) hp
      rw [List.getElem?_append_left (List.getElem?_eq_some_iff.1 h1).1]; exact h1
theorem Hist.splitK {T V S : Int} {l : List Ev} {s : Sh} (h : Hist T V S l s) {i : Nat} (hi : i < l.length) : ∀ k, k ≤ l.length → (Go.Proofs.YtcddlnmcjmhbcaaDoor.splitK l k).1[i]? = some (if ofI l i < (Go.Proofs.YtcddlnmcjmhbcaaDoor.splitK l k).2 then ofI l i else -1)
  | 0, _ => by
    have h0 : -1 ≤ ofI l i := by rw [ofI_eq hi]; unfold ofH; split; omega; split <;> omega
    show (List.replicate l.length (-1 : Int))[i]? = some (if ofI l i < 0 then ofI l i else -1)
    rw [List.getElem?_replicate, if_pos hi]
    split
    · congr 1; omega
    · rfl
  | k + 1, hk => by
    have ih := h.splitK hi k (by omega)
    rw [splitK_succ]
    unfold stepK
    split
    · rename_i hB
      have hn := splitK_n l k
      have hbk : (begs l)[((List.range k).filter (isB l)).length]? = some k := range_filter_take (by omega) hB
      have hof := h.of_iff hi hbk
      rw [← hn] at hof
      dsimp only
      rw [setsR_get _ _ _ _ (by rw [splitK_len]; exact hi), ih]
      by_cases hm : i ∈ mineP l k
      · rw [if_pos hm]
        have := hof.1 (mem_mineP.1 hm).2
        rw [if_pos (by omega), this]
      · rw [if_neg hm]
        have : ofI l i ≠ (Go.Proofs.YtcddlnmcjmhbcaaDoor.splitK l k).2 := fun hc => hm (mem_mineP.2 ⟨hi, hof.2 hc⟩)
        by_cases h1 : ofI l i < (Go.Proofs.YtcddlnmcjmhbcaaDoor.splitK l k).2
        · rw [if_pos h1, if_pos (by omega)]
        · rw [if_neg h1, if_neg (by omega)]
    · exact ih
def splitR (l : List Ev) : List Int := (splitK l l.length).1
theorem Hist.splitR {T V S : Int} {l : List Ev} {s : Sh} (h : Hist T V S l s) : ofT l = Go.Proofs.YtcddlnmcjmhbcaaDoor.splitR l := by
  rw [ofT_eq]
  refine List.ext_getElem? fun i => ?_
  by_cases hi : i < l.length
  · rw [List.getElem?_map, List.getElem?_range hi]
    unfold Go.Proofs.YtcddlnmcjmhbcaaDoor.splitR
    rw [h.splitK hi l.length (Nat.le_refl _)]
    show some (ofI l i) = _
    congr 1
    rw [splitK_n]
    by_cases k13 : l[i].kind = 13
    · have : ofI l i = -1 := by rw [ofI_eq hi]; unfold ofH; rw [if_neg (by omega), if_pos k13]
      rw [this]; split <;> rfl
    · obtain ⟨k, a, hE⟩ := h.each hi k13
      have h1 := hE.of
      have h2 := hE.lt
      rw [h.ofR] at h2
      unfold Go.Proofs.YtcddlnmcjmhbcaaDoor.ofR begs at h2
      rw [List.length_map] at h2
      rw [if_pos (by omega)]
  · rw [List.getElem?_eq_none (by simp; omega), List.getElem?_eq_none (by unfold Go.Proofs.YtcddlnmcjmhbcaaDoor.splitR; rw [splitK_len]; omega)]
end Go.Proofs.YtcddlnmcjmhbcaaDoor
/-
  Attempts in memory, read as data: pairs, attempts, numbers. Nothing of the program.
-/
namespace Go.Proofs.YtcddlnmcjmhbcaaDoor
set_option linter.unusedVariables false
set_option linter.unusedSimpArgs false
set_option linter.unusedVariables false
open Go Go.RowKit
def RdP (w : World) (l : List (Int × Int)) (v : Value) : Prop :=
  ∃ a cap, v = .slice a l.length cap ∧ l.length ≤ 1048576 ∧ (l ≠ [] → ∃ b o, a = some ⟨b, o, none⟩ ∧ ∀ k (h : k < l.length), w.cell? ⟨b, o + k * 2, none⟩ = some (.int .i64 l[k].1) ∧ w.cell? ⟨b, o + k * 2 + 1, none⟩ = some (.int .i64 l[k].2))
def RdN (w : World) (l : List Int) (v : Value) : Prop :=
  ∃ a cap, v = .slice a l.length cap ∧ l.length ≤ 1048576 ∧ (l ≠ [] → ∃ b o, a = some ⟨b, o, none⟩ ∧ ∀ k (h : k < l.length), w.cell? ⟨b, o + k, none⟩ = some (.int .i64 l[k]))
structure AttM (w : World) (b o : Nat) (a : Att) (r u : Value) : Prop where
  c0 : w.cell? ⟨b, o, none⟩ = some (.int .i64 a.th)
  c1 : w.cell? ⟨b, o + 1, none⟩ = some (.int .i64 a.tx)
  c2 : w.cell? ⟨b, o + 2, none⟩ = some (.int .i64 a.from_)
  c3 : w.cell? ⟨b, o + 3, none⟩ = some (.int .i64 a.to_)
  c4 : w.cell? ⟨b, o + 4, none⟩ = some (.int .i64 a.rv)
  c5 : w.cell? ⟨b, o + 5, none⟩ = some (.int .i64 a.wv)
  c6 : w.cell? ⟨b, o + 6, none⟩ = some (.bool a.com)
  c7 : w.cell? ⟨b, o + 7, none⟩ = some r
  c8 : w.cell? ⟨b, o + 8, none⟩ = some u
  reads : RdP w a.reads r
  writes : RdP w a.writes u
def RdA (w : World) (L : List Att) (v : Value) : Prop :=
  ∃ a cap, v = .slice a L.length cap ∧ L.length ≤ 1048576 ∧ (L ≠ [] → ∃ b o, a = some ⟨b, o, none⟩ ∧ ∀ k (h : k < L.length), ∃ r u, AttM w b (o + k * 9) L[k] r u)
theorem RdP.below {w w' : World} (hb : Below w.heap.size w w') {l : List (Int × Int)} {v : Value} (h : RdP w l v) : RdP w' l v := by
  obtain ⟨a, cap, h1, h2, h4⟩ := h
  refine ⟨a, cap, h1, h2, fun hn => ?_⟩
  obtain ⟨b, o, h5, h6⟩ := h4 hn
  exact ⟨b, o, h5, fun k hk => ⟨later hb (h6 k hk).1, later hb (h6 k hk).2⟩⟩
theorem RdN.below {w w' : World} (hb : Below w.heap.size w w') {l : List Int} {v : Value} (h : RdN w l v) : RdN w' l v := by
  obtain ⟨a, cap, h1, h2, h4⟩ := h
  refine ⟨a, cap, h1, h2, fun hn => ?_⟩
  obtain ⟨b, o, h5, h6⟩ := h4 hn
  exact ⟨b, o, h5, fun k hk => later hb (h6 k hk)⟩
theorem AttM.below {w w' : World} (hb : Below w.heap.size w w') {b o : Nat} {a : Att} {r u : Value} (h : AttM w b o a r u) : AttM w' b o a r u :=
  ⟨later hb h.c0, later hb h.c1, later hb h.c2, later hb h.c3, later hb h.c4, later hb h.c5, later hb h.c6, later hb h.c7, later hb h.c8, h.reads.below hb, h.writes.below hb⟩
theorem RdA.below {w w' : World} (hb : Below w.heap.size w w') {L : List Att} {v : Value} (h : RdA w L v) : RdA w' L v := by
  obtain ⟨a, cap, h1, h2, h4⟩ := h
  refine ⟨a, cap, h1, h2, fun hn => ?_⟩
  obtain ⟨b, o, h5, h6⟩ := h4 hn
  refine ⟨b, o, h5, fun k hk => ?_⟩
  obtain ⟨r, u, h7⟩ := h6 k hk
  exact ⟨r, u, h7.below hb⟩
theorem bool_of (p : Prop) : ∃ r : Bool, p ↔ r = true := by
  by_cases h : p
  · exact ⟨true, by simp [h]⟩
  · exact ⟨false, by simp [h]⟩
theorem takeEq {α : Type} {l l' : List α} {k : Nat} (h : k < l.length) (h' : k < l'.length) (ht : l.take k = l'.take k) (he : l[k] = l'[k]) : l.take (k + 1) = l'.take (k + 1) := by
  rw [List.take_add_one, List.take_add_one, ht, List.getElem?_eq_getElem h, List.getElem?_eq_getElem h', he]
end Go.Proofs.YtcddlnmcjmhbcaaDoor
