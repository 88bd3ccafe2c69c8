/-
  The plain law of ShapeKept: without the attempts that go, a well-formed trace is one. Nothing of the program.
-/
import Derived.Test.YtmgchpijkdammaaDoorShP
namespace Go.Proofs.YtmgchpijkdammaaDoor
set_option linter.unusedVariables false
set_option linter.unusedSimpArgs false
section

/-- Where an event takes its thread. -/
def Moves (k a b : Int) : Prop :=
  (k = 1 ∧ a = 0 ∧ b = 1) ∨ (k = 2 ∧ a = 1 ∧ b = 2) ∨ (k = 3 ∧ a = 2 ∧ b = 1) ∨ (k = 4 ∧ (a = 1 ∨ a = 3) ∧ b = 3) ∨ (k = 5 ∧ a = 3 ∧ b = 4) ∨ (k = 6 ∧ a = 4 ∧ b = 4) ∨
  (k = 7 ∧ ((a = 1 ∧ b = 0) ∨ (a = 4 ∧ b = 5))) ∨ (k = 8 ∧ a = 5 ∧ b = 5) ∨ (k = 9 ∧ (a = 5 ∨ a = 6) ∧ (b = 0 ∨ b = 6)) ∨ (k = 10 ∧ 1 ≤ a ∧ a ≤ 4 ∧ (b = 0 ∨ b = 7)) ∨
  (k = 11 ∧ a = 7 ∧ (b = 7 ∨ b = 0 ∨ b = 9)) ∨ (k = 12 ∧ a = 1 ∧ b = 8) ∨ (k = 13 ∧ a = 8 ∧ b = 0)
theorem fits_at {s : Sh} {t : Th} {e : Ev} (h : fitsS s t e = true) : 1 ≤ t.at_ ∧ t.at_ ≤ 4 := by
  unfold fitsS at h
  split at h
  · simp only [Bool.and_eq_true, decide_eq_true_eq] at h; omega
  split at h
  · simp only [decide_eq_true_eq] at h; omega
  split at h
  · simp only [decide_eq_true_eq] at h; omega
  split at h
  · simp only [Bool.and_eq_true, decide_eq_true_eq] at h; omega
  split at h
  · simp only [Bool.and_eq_true, decide_eq_true_eq] at h; omega
  split at h
  · simp only [decide_eq_true_eq] at h; omega
  · cases h

theorem at_step {s s' : Sh} {e : Ev} (hw : Wf s) (h : stepS s e = some s') : ∃ (th : Nat) (t' : Th), e.th = (th : Int) ∧ th < s.ths.length ∧ s'.ths = s.ths.set th t' ∧ s'.vars = s.vars ∧ s'.sts.length = s.sts.length ∧
    Moves e.kind (s.ths.getD th Th.zero).at_ t'.at_ ∧ (e.kind ≠ 7 → e.kind ≠ 9 → t'.commits = (s.ths.getD th Th.zero).commits) ∧ s.clock ≤ s'.clock := by
  obtain ⟨th, hthe, htn, hlt, hm, hk, hat, hatS, hmod, hv, hd⟩ := stepS_inv hw h
  have R : ∀ (q : Sh) (t' : Th), q.ths = s.ths → (q.setTh e.th t').ths = s.ths.set th t' := by intro q t' h1; simp only [Sh.setTh, h1, htn]
  refine ⟨th, ?_⟩
  generalize s.ths.getD th Th.zero = t at hd ⊢
  unfold doesS at hd
  by_cases k1 : e.kind = 1
  · rw [if_pos k1] at hd
    unfold beginS at hd; split at hd
    case isFalse => cases hd
    rename_i hc
    cases hd
    exact ⟨_, hthe, hlt, R _ _ rfl, rfl, rfl, Or.inl ⟨k1, hc.1, rfl⟩, fun _ _ => rfl, hc.2.2⟩
  rw [if_neg k1] at hd
  by_cases k2 : e.kind = 2
  · rw [if_pos k2] at hd
    unfold lookS at hd; split at hd
    case isFalse => cases hd
    rename_i hc
    cases hd
    exact ⟨_, hthe, hlt, R _ _ rfl, rfl, by simp [Sh.setTh, Sh.setSt], Or.inr (Or.inl ⟨k2, hc.1, rfl⟩), fun _ _ => rfl, Int.le_refl _⟩
  rw [if_neg k2] at hd
  by_cases k3 : e.kind = 3
  · rw [if_pos k3] at hd
    unfold loadS at hd; split at hd
    case isFalse => cases hd
    rename_i hc
    cases hd
    exact ⟨_, hthe, hlt, R _ _ rfl, rfl, rfl, Or.inr (Or.inr (Or.inl ⟨k3, hc.1, rfl⟩)), fun _ _ => rfl, Int.le_refl _⟩
  rw [if_neg k3] at hd
  by_cases k4 : e.kind = 4
  · rw [if_pos k4] at hd
    unfold lockS at hd; split at hd
    case isFalse => cases hd
    rename_i hc
    cases hd
    exact ⟨_, hthe, hlt, R _ _ rfl, rfl, by simp [Sh.setTh, Sh.setSt], Or.inr (Or.inr (Or.inr (Or.inl ⟨k4, hc.1, rfl⟩))), fun _ _ => rfl, Int.le_refl _⟩
  rw [if_neg k4] at hd
  by_cases k5 : e.kind = 5
  · rw [if_pos k5] at hd
    unfold bumpS at hd; split at hd
    case isFalse => cases hd
    rename_i hc
    cases hd
    exact ⟨_, hthe, hlt, R { s with clock := e.v } _ rfl, rfl, rfl, Or.inr (Or.inr (Or.inr (Or.inr (Or.inl ⟨k5, hc.1, rfl⟩)))), fun _ _ => rfl, Int.le_of_lt hc.2⟩
  rw [if_neg k5] at hd
  by_cases k6 : e.kind = 6
  · rw [if_pos k6] at hd
    unfold checkS at hd; split at hd
    case isFalse => cases hd
    rename_i hc
    cases hd
    exact ⟨_, hthe, hlt, R _ _ rfl, rfl, rfl, Or.inr (Or.inr (Or.inr (Or.inr (Or.inr (Or.inl ⟨k6, hc.1, hc.1⟩))))), fun _ _ => rfl, Int.le_refl _⟩
  rw [if_neg k6] at hd
  by_cases k7 : e.kind = 7
  · rw [if_pos k7] at hd
    unfold commitS at hd; split at hd
    · rename_i hc
      cases hd
      exact ⟨_, hthe, hlt, R _ _ rfl, rfl, rfl, Or.inr (Or.inr (Or.inr (Or.inr (Or.inr (Or.inr (Or.inl ⟨k7, Or.inl ⟨hc.2, rfl⟩⟩)))))), fun h7 => absurd k7 h7, Int.le_refl _⟩
    split at hd
    · rename_i hc
      cases hd
      exact ⟨_, hthe, hlt, R _ _ rfl, rfl, rfl, Or.inr (Or.inr (Or.inr (Or.inr (Or.inr (Or.inr (Or.inl ⟨k7, Or.inr ⟨hc.2.1, rfl⟩⟩)))))), fun h7 => absurd k7 h7, Int.le_refl _⟩
    cases hd
  rw [if_neg k7] at hd
  by_cases k8 : e.kind = 8
  · rw [if_pos k8] at hd
    unfold storeS at hd; split at hd
    case isFalse => cases hd
    rename_i hc
    cases hd
    exact ⟨_, hthe, hlt, R _ _ rfl, rfl, rfl, Or.inr (Or.inr (Or.inr (Or.inr (Or.inr (Or.inr (Or.inr (Or.inl ⟨k8, hc.1, hc.1⟩))))))), fun _ _ => rfl, Int.le_refl _⟩
  rw [if_neg k8] at hd
  by_cases k9 : e.kind = 9
  · rw [if_pos k9] at hd
    unfold freedS at hd; split at hd
    case isFalse => cases hd
    rename_i hc
    cases hd
    exact ⟨_, hthe, hlt, R _ _ rfl, rfl, by simp [Sh.setTh, Sh.setSt], Or.inr (Or.inr (Or.inr (Or.inr (Or.inr (Or.inr (Or.inr (Or.inr (Or.inl ⟨k9, by omega, by split; exact Or.inl rfl; exact Or.inr rfl⟩)))))))), fun _ h9 => absurd k9 h9, Int.le_refl _⟩
  rw [if_neg k9] at hd
  by_cases k10 : e.kind = 10
  · rw [if_pos k10] at hd
    unfold abortS at hd; split at hd
    case isFalse => cases hd
    rename_i hc
    cases hd
    have := fits_at hc
    exact ⟨_, hthe, hlt, R _ _ rfl, rfl, rfl, Or.inr (Or.inr (Or.inr (Or.inr (Or.inr (Or.inr (Or.inr (Or.inr (Or.inr (Or.inl ⟨k10, this.1, this.2, by simp only; split; exact Or.inl rfl; exact Or.inr rfl⟩))))))))), fun _ _ => rfl, Int.le_refl _⟩
  rw [if_neg k10] at hd
  by_cases k11 : e.kind = 11
  · rw [if_pos k11] at hd
    unfold undoS at hd; split at hd
    case isFalse => cases hd
    rename_i hc
    cases hd
    exact ⟨_, hthe, hlt, R _ _ rfl, rfl, by simp [Sh.setTh, Sh.setSt], Or.inr (Or.inr (Or.inr (Or.inr (Or.inr (Or.inr (Or.inr (Or.inr (Or.inr (Or.inr (Or.inl ⟨k11, hc.1, by simp only; (repeat' split) <;> simp⟩)))))))))), fun _ _ => rfl, Int.le_refl _⟩
  rw [if_neg k11] at hd
  by_cases k12 : e.kind = 12
  · rw [if_pos k12] at hd
    unfold waitS at hd; split at hd
    case isFalse => cases hd
    rename_i hc
    cases hd
    exact ⟨_, hthe, hlt, R _ _ rfl, rfl, rfl, Or.inr (Or.inr (Or.inr (Or.inr (Or.inr (Or.inr (Or.inr (Or.inr (Or.inr (Or.inr (Or.inr (Or.inl ⟨k12, hc, rfl⟩))))))))))), fun _ _ => rfl, Int.le_refl _⟩
  rw [if_neg k12] at hd
  unfold wakeS at hd; split at hd
  case isFalse => cases hd
  rename_i hc
  cases hd
  exact ⟨_, hthe, hlt, R _ _ rfl, rfl, rfl, Or.inr (Or.inr (Or.inr (Or.inr (Or.inr (Or.inr (Or.inr (Or.inr (Or.inr (Or.inr (Or.inr (Or.inr (⟨by omega, hc.1, rfl⟩)))))))))))), fun _ _ => rfl, Int.le_refl _⟩

/-- Does what is to come abort the thread's attempt, or end it in a wait? -/
def goneR (th : Int) : List Ev → Bool
  | [] => false
  | e :: l => if e.th = th ∧ (e.kind = 1 ∨ e.kind = 10 ∨ e.kind = 12) then decide (e.kind ≠ 1) else goneR th l
theorem goneR_cons (th : Int) (e : Ev) (l : List Ev) : goneR th (e :: l) = if e.th = th ∧ (e.kind = 1 ∨ e.kind = 10 ∨ e.kind = 12) then decide (e.kind ≠ 1) else goneR th l := rfl
theorem goneR_other {th : Int} {e : Ev} {l : List Ev} (h : e.th ≠ th) : goneR th (e :: l) = goneR th l := by rw [goneR_cons, if_neg (by intro h'; exact h h'.1)]
theorem goneR_mid {th : Int} {e : Ev} {l : List Ev} (h1 : e.kind ≠ 1) (h10 : e.kind ≠ 10) (h12 : e.kind ≠ 12) : goneR th (e :: l) = goneR th l := by rw [goneR_cons, if_neg (by omega)]
theorem goneR_yes {th : Int} {e : Ev} {l : List Ev} (h : e.th = th) (hk : e.kind = 10 ∨ e.kind = 12) : goneR th (e :: l) = true := by
  rw [goneR_cons, if_pos ⟨h, by omega⟩, decide_eq_true_eq]; omega
theorem goneR_begin {th : Int} {e : Ev} {l : List Ev} (h : e.th = th) (hk : e.kind = 1) : goneR th (e :: l) = false := by
  rw [goneR_cons, if_pos ⟨h, by omega⟩, decide_eq_false_iff_not]; omega
/-- Who has committed, or is in no attempt, is not gone. -/
theorem goneR_no : ∀ (l : List Ev) {s s' : Sh} {i : Nat}, Wf s → runS s l = some s' → i < s.ths.length → ((s.ths.getD i Th.zero).at_ = 0 ∨ (s.ths.getD i Th.zero).at_ = 5 ∨ (s.ths.getD i Th.zero).at_ = 6) → goneR i l = false
  | [], _, _, _, _, _, _, _ => rfl
  | e :: l, s, s', i, hw, h, hi, ha => by
    unfold runS at h
    cases hs : stepS s e with
    | none => rw [hs] at h; cases h
    | some r =>
      rw [hs] at h
      obtain ⟨th, t', e1, e2, e3, -, -, hm, -⟩ := at_step hw hs
      have hw' := stepS_wf hw hs
      have hlen : r.ths.length = s.ths.length := by rw [e3, List.length_set]
      by_cases hti : th = i
      · subst hti
        by_cases k1 : e.kind = 1
        · exact goneR_begin e1 k1
        · unfold Moves at hm
          rw [goneR_mid k1 (by omega) (by omega)]
          refine goneR_no l hw' h (by omega) ?_
          rw [e3, getD_set_eq _ _ _ _ e2]
          omega
      · rw [goneR_other (by omega)]
        refine goneR_no l hw' h (by omega) ?_
        rw [e3, getD_set_ne _ _ _ _ _ hti]; exact ha
/-- The flags: whose attempt is of those that go. -/
def FlagS (s : Sh) (f : Nat → Bool) (l : List Ev) : Prop :=
  ∀ i, i < s.ths.length → (f i = false → goneR i l = false ∧ (s.ths.getD i Th.zero).at_ ≤ 6) ∧
    (f i = true → (1 ≤ (s.ths.getD i Th.zero).at_ → (s.ths.getD i Th.zero).at_ ≤ 4 → goneR i l = true) ∧ (s.ths.getD i Th.zero).at_ ≠ 5 ∧ (s.ths.getD i Th.zero).at_ ≠ 6)
def nextF (f : Nat → Bool) (e : Ev) (l : List Ev) : Nat → Bool := fun i => if e.kind = 1 ∧ e.th = (i : Int) then goneR i l else f i
theorem nextF_same {f : Nat → Bool} {e : Ev} {l : List Ev} (h : e.kind ≠ 1) : nextF f e l = f := by funext i; unfold nextF; rw [if_neg (by intro h'; exact h h'.1)]
theorem nextF_ne {f : Nat → Bool} {e : Ev} {l : List Ev} {i : Nat} (h : e.th ≠ (i : Int)) : nextF f e l i = f i := by unfold nextF; rw [if_neg (by intro h'; exact h h'.2)]
theorem FlagS.step {s r s' : Sh} {f : Nat → Bool} {e : Ev} {l : List Ev} (hw : Wf s) (hf : FlagS s f (e :: l)) (hs : stepS s e = some r) (h : runS r l = some s') :
    FlagS r (nextF f e l) l ∧ (nextF f e l e.th.toNat = false → e.kind ≠ 10 ∧ e.kind ≠ 11 ∧ e.kind ≠ 12 ∧ e.kind ≠ 13) ∧ (nextF f e l e.th.toNat = true → e.kind ≠ 7 ∧ e.kind ≠ 8 ∧ e.kind ≠ 9) := by
  obtain ⟨th, t', e1, e2, e3, -, -, hm, -⟩ := at_step hw hs
  have hw' := stepS_wf hw hs
  have hlen : r.ths.length = s.ths.length := by rw [e3, List.length_set]
  have htn : e.th.toNat = th := by omega
  obtain ⟨h1, h2⟩ := hf th e2
  have hno := fun (hx : t'.at_ = 0 ∨ t'.at_ = 5 ∨ t'.at_ = 6) => goneR_no l (i := th) hw' h (by omega) (by rw [e3, getD_set_eq _ _ _ _ e2]; exact hx)
  rw [htn]
  -- the thread's own flag
  have key : ((nextF f e l th = false → goneR th l = false ∧ t'.at_ ≤ 6) ∧ (nextF f e l th = true → (1 ≤ t'.at_ → t'.at_ ≤ 4 → goneR th l = true) ∧ t'.at_ ≠ 5 ∧ t'.at_ ≠ 6)) ∧
      (nextF f e l th = false → e.kind ≠ 10 ∧ e.kind ≠ 11 ∧ e.kind ≠ 12 ∧ e.kind ≠ 13) ∧ (nextF f e l th = true → e.kind ≠ 7 ∧ e.kind ≠ 8 ∧ e.kind ≠ 9) := by
    by_cases k1 : e.kind = 1
    · have hn : nextF f e l th = goneR th l := by unfold nextF; rw [if_pos ⟨k1, e1⟩]
      rw [hn]
      unfold Moves at hm
      refine ⟨⟨fun hx => ⟨hx, by omega⟩, fun hx => ⟨fun _ _ => hx, by omega, by omega⟩⟩, fun _ => by omega, fun _ => by omega⟩
    · rw [nextF_same k1]
      cases hfi : f th with
      | false =>
        obtain ⟨a1, a2⟩ := h1 hfi
        have k10 : e.kind ≠ 10 := by intro hk; rw [goneR_yes e1 (Or.inl hk)] at a1; cases a1
        have k12 : e.kind ≠ 12 := by intro hk; rw [goneR_yes e1 (Or.inr hk)] at a1; cases a1
        rw [goneR_mid k1 k10 k12] at a1
        unfold Moves at hm
        refine ⟨⟨fun _ => ⟨a1, by omega⟩, by simp⟩, fun _ => by omega, by simp⟩
      | true =>
        obtain ⟨a1, a2, a3⟩ := h2 hfi
        unfold Moves at hm
        by_cases k7 : e.kind = 7
        · have := a1 (by omega) (by omega)
          rw [goneR_mid k1 (by omega) (by omega)] at this
          rw [hno (by omega)] at this; cases this
        · refine ⟨⟨by simp, fun _ => ⟨fun b1 b2 => ?_, by omega, by omega⟩⟩, by simp, fun _ => by omega⟩
          have := a1 (by omega) (by omega)
          rwa [goneR_mid k1 (by omega) (by omega)] at this
  refine ⟨fun i hi => ?_, key.2.1, key.2.2⟩
  rw [hlen] at hi
  by_cases hti : th = i
  · subst hti
    rw [e3, getD_set_eq _ _ _ _ e2]
    exact key.1
  · rw [e3, getD_set_ne _ _ _ _ _ hti, nextF_ne (by omega)]
    have := hf i hi
    rwa [goneR_other (by omega)] at this
end
section

/-- Versions rise; who owns a stripe has its bit. -/
structure Mon (s : Sh) : Prop where
  a : ∀ i, i < s.ths.length → (s.ths.getD i Th.zero).at_ = 4 ∨ (s.ths.getD i Th.zero).at_ = 5 ∨ (s.ths.getD i Th.zero).at_ = 6 → ∀ b, (s.ths.getD i Th.zero).owned.testBit b = true → stV s b < (s.ths.getD i Th.zero).wv
  c : ∀ b i : Nat, stO s b = (i : Int) → (s.ths.getD i Th.zero).owned.testBit b = true
  d : ∀ b, stV s b ≤ s.clock
theorem Mon.mk' {s s' : Sh} (hm : Mon s) (hw : Wf s) {th : Nat} {t' : Th} (hlt : th < s.ths.length) (hths : s'.ths = s.ths.set th t') (hclk : s.clock ≤ s'.clock)
    (hst : s'.sts = s.sts ∨ ∃ a p, s'.sts = s.sts.set a p ∧ a < s.sts.length ∧ (stO s a = -1 ∨ stO s a = (th : Int)) ∧ (p.1 = -1 ∨ p.1 = (th : Int)) ∧ p.2 ≤ s'.clock)
    (ho : ∀ b, stO s' b = (th : Int) → t'.owned.testBit b = true)
    (ha : t'.at_ = 4 ∨ t'.at_ = 5 ∨ t'.at_ = 6 → ∀ b, t'.owned.testBit b = true → stV s' b < t'.wv) : Mon s' := by
  refine ⟨fun i hi hx b hb => ?_, fun b i hb => ?_, fun b => ?_⟩
  · rw [hths, List.length_set] at hi
    rw [hths] at hx hb ⊢
    by_cases he : th = i
    · subst he
      rw [getD_set_eq _ _ _ _ hi] at hx hb ⊢
      exact ha hx b hb
    · rw [getD_set_ne _ _ _ _ _ he] at hx hb ⊢
      have h1 := hm.a i hi hx b hb
      rcases hst with hs | ⟨a, p, hs, ha', hown, -, -⟩
      · unfold stV; rw [hs]; exact h1
      · unfold stV; rw [hs]
        by_cases hab : a = b
        · subst hab
          have := ((hw.th i hi).own _ hb).2
          unfold stO at hown
          omega
        · rw [getD_set_ne _ _ _ _ _ hab]; exact h1
  · rw [hths]
    by_cases he : th = i
    · subst he
      rw [getD_set_eq _ _ _ _ hlt]
      exact ho b hb
    · rw [getD_set_ne _ _ _ _ _ he]
      rcases hst with hs | ⟨a, p, hs, ha', hown, hp, -⟩
      · unfold stO at hb; rw [hs] at hb; exact hm.c b i hb
      · unfold stO at hb; rw [hs] at hb
        by_cases hab : a = b
        · subst hab; rw [getD_set_eq _ _ _ _ ha'] at hb; omega
        · rw [getD_set_ne _ _ _ _ _ hab] at hb; exact hm.c b i hb
  · rcases hst with hs | ⟨a, p, hs, ha', hown, hp, hq⟩
    · unfold stV; rw [hs]; have := hm.d b; unfold stV at this; omega
    · unfold stV; rw [hs]
      by_cases hab : a = b
      · subst hab; rw [getD_set_eq _ _ _ _ ha']; exact hq
      · rw [getD_set_ne _ _ _ _ _ hab]; have := hm.d b; unfold stV at this; omega
theorem stO_set {s : Sh} {e : Ev} {p : Int × Int} {t' : Th} (h : e.at_.toNat < s.sts.length) (b : Nat) : stO ((s.setSt e.at_ p).setTh e.th t') b = if b = e.at_.toNat then p.1 else stO s b := by
  show ((s.sts.set e.at_.toNat p).getD b (-1, 0)).1 = _
  by_cases hi : e.at_.toNat = b
  · subst hi; rw [getD_set_eq _ _ _ _ h, if_pos rfl]
  · rw [getD_set_ne _ _ _ _ _ hi, if_neg (Ne.symm hi)]; rfl
theorem stV_set {s : Sh} {e : Ev} {p : Int × Int} {t' : Th} (h : e.at_.toNat < s.sts.length) (b : Nat) : stV ((s.setSt e.at_ p).setTh e.th t') b = if b = e.at_.toNat then p.2 else stV s b := by
  show ((s.sts.set e.at_.toNat p).getD b (-1, 0)).2 = _
  by_cases hi : e.at_.toNat = b
  · subst hi; rw [getD_set_eq _ _ _ _ h, if_pos rfl]
  · rw [getD_set_ne _ _ _ _ _ hi, if_neg (Ne.symm hi)]; rfl

/-- The filtered run beside the whole one. -/
structure Sim (s r : Sh) (f : Nat → Bool) : Prop where
  vars : r.vars = s.vars
  nt : r.ths.length = s.ths.length
  ns : r.sts.length = s.sts.length
  clk : r.clock ≤ s.clock
  ver : ∀ b, stV r b ≤ stV s b
  own : ∀ b, (stO s b = -1 → stO r b = -1) ∧ ∀ i : Nat, stO s b = (i : Int) → stO r b = if f i = true then -1 else (i : Int)
  same : ∀ i, i < s.ths.length → f i = false → r.ths.getD i Th.zero = s.ths.getD i Th.zero
  rest : ∀ i, i < s.ths.length → f i = true → (r.ths.getD i Th.zero).at_ = 0 ∧ (r.ths.getD i Th.zero).commits = (s.ths.getD i Th.zero).commits
  look : ∀ i, i < s.ths.length → f i = false → (s.ths.getD i Th.zero).at_ = 2 → (s.ths.getD i Th.zero).v ≤ stV r (s.ths.getD i Th.zero).stripe.toNat
/-- An event that goes: the whole run turns, the other one stands. -/
theorem Sim.drop {s r s' : Sh} {f f' : Nat → Bool} (h : Sim s r f) {th : Nat} {t' : Th} (hlt : th < s.ths.length) (hths : s'.ths = s.ths.set th t') (hv : s'.vars = s.vars) (hn : s'.sts.length = s.sts.length) (hclk : s.clock ≤ s'.clock)
    (hf : f' th = true) (hff : ∀ i, i ≠ th → f' i = f i) (hc : t'.commits = (s.ths.getD th Th.zero).commits) (h0 : f th = false → (s.ths.getD th Th.zero).at_ = 0 ∧ ∀ b, stO s b ≠ (th : Int))
    (hver : ∀ b, stV s b ≤ stV s' b) (hown : ∀ b, stO s' b = stO s b ∨ ((stO s b = -1 ∨ stO s b = (th : Int)) ∧ (stO s' b = -1 ∨ stO s' b = (th : Int)))) : Sim s' r f' := by
  have hmine : ∀ b, stO s b = -1 ∨ stO s b = (th : Int) → stO r b = -1 := by
    rintro b (hb | hb)
    · exact (h.own b).1 hb
    · cases hft : f th with
      | false => exact absurd hb ((h0 hft).2 b)
      | true => rw [(h.own b).2 th hb, if_pos hft]
  have hthr : ∀ i, th ≠ i → s'.ths.getD i Th.zero = s.ths.getD i Th.zero := by intro i hi; rw [hths, getD_set_ne _ _ _ _ _ hi]
  have hlen : s'.ths.length = s.ths.length := by rw [hths, List.length_set]
  refine ⟨by rw [hv]; exact h.vars, by rw [hlen]; exact h.nt, by rw [hn]; exact h.ns, by have := h.clk; omega, fun b => by have := h.ver b; have := hver b; omega, fun b => ?_, fun i hi hfi => ?_, fun i hi hfi => ?_, fun i hi hfi hx => ?_⟩
  · rcases hown b with e | ⟨e1, e2⟩
    · rw [e]
      refine ⟨(h.own b).1, fun i hi => ?_⟩
      by_cases hti : i = th
      · subst hti; rw [if_pos hf]; exact hmine b (Or.inr hi)
      · rw [hff i hti]; exact (h.own b).2 i hi
    · refine ⟨fun _ => hmine b e1, fun i hi => ?_⟩
      have : i = th := by omega
      subst this
      rw [if_pos hf]; exact hmine b e1
  · have hti : th ≠ i := by intro e; subst e; rw [hf] at hfi; cases hfi
    rw [hthr i hti]; exact h.same i (by omega) (by rw [← hff i (Ne.symm hti)]; exact hfi)
  · by_cases hti : th = i
    · subst hti
      rw [hths, getD_set_eq _ _ _ _ hlt, hc]
      cases hft : f th with
      | false => rw [h.same th hlt hft]; exact ⟨(h0 hft).1, rfl⟩
      | true => exact h.rest th hlt hft
    · rw [hthr i hti]; exact h.rest i (by omega) (by rw [← hff i (Ne.symm hti)]; exact hfi)
  · have hti : th ≠ i := by intro e; subst e; rw [hf] at hfi; cases hfi
    rw [hthr i hti] at hx ⊢; exact h.look i (by omega) (by rw [← hff i (Ne.symm hti)]; exact hfi) hx
/-- An event that stays: both turn alike. -/
theorem Sim.keep {s r s' r' : Sh} {f f' : Nat → Bool} (h : Sim s r f) {th : Nat} {t' : Th} (hlt : th < s.ths.length) (hths : s'.ths = s.ths.set th t') (hrths : r'.ths = r.ths.set th t') (hv : s'.vars = s.vars) (hrv : r'.vars = r.vars) (hclk : r'.clock ≤ s'.clock)
    (hf : f' th = false) (hff : ∀ i, i ≠ th → f' i = f i) (h0 : f th = true → ∀ b, stO s b ≠ (th : Int))
    (hst : (s'.sts = s.sts ∧ r'.sts = r.sts) ∨ ∃ a p q, s'.sts = s.sts.set a p ∧ r'.sts = r.sts.set a q ∧ a < s.sts.length ∧ (p.1 = -1 ∨ p.1 = (th : Int)) ∧ q.1 = p.1 ∧ q.2 ≤ p.2 ∧ stV r a ≤ q.2)
    (hl : t'.at_ = 2 → t'.v ≤ stV r' t'.stripe.toNat) : Sim s' r' f' := by
  have hthr : ∀ i, th ≠ i → s'.ths.getD i Th.zero = s.ths.getD i Th.zero := by intro i hi; rw [hths, getD_set_ne _ _ _ _ _ hi]
  have hthr' : ∀ i, th ≠ i → r'.ths.getD i Th.zero = r.ths.getD i Th.zero := by intro i hi; rw [hrths, getD_set_ne _ _ _ _ _ hi]
  have hlen : s'.ths.length = s.ths.length := by rw [hths, List.length_set]
  have hn : s'.sts.length = s.sts.length ∧ r'.sts.length = r.sts.length := by
    rcases hst with ⟨e1, e2⟩ | ⟨a, p, q, e1, e2, -⟩ <;> rw [e1, e2] <;> simp
  have hver : ∀ b, stV r' b ≤ stV s' b ∧ stV r b ≤ stV r' b := by
    intro b
    have h1 := h.ver b
    rcases hst with ⟨e1, e2⟩ | ⟨a, p, q, e1, e2, ha, -, -, hq, hq2⟩
    · unfold stV at *; rw [e1, e2]; exact ⟨h1, Int.le_refl _⟩
    · unfold stV at *; rw [e1, e2]
      by_cases hab : a = b
      · subst hab
        rw [getD_set_eq _ _ _ _ ha, getD_set_eq _ _ _ _ (by rw [h.ns]; exact ha)]; exact ⟨hq, hq2⟩
      · rw [getD_set_ne _ _ _ _ _ hab, getD_set_ne _ _ _ _ _ hab]; exact ⟨h1, Int.le_refl _⟩
  have hown0 : ∀ b, (stO s b = -1 → stO r b = -1) ∧ ∀ i : Nat, stO s b = (i : Int) → stO r b = if f' i = true then -1 else (i : Int) := by
    intro b
    refine ⟨(h.own b).1, fun i hi => ?_⟩
    by_cases hti : i = th
    · subst hti
      cases hft : f i with
      | false => have := (h.own b).2 i hi; rw [hft] at this; rw [hf]; exact this
      | true => exact absurd hi (h0 hft b)
    · rw [hff i hti]; exact (h.own b).2 i hi
  refine ⟨by rw [hv, hrv]; exact h.vars, by rw [hlen, hrths, List.length_set]; exact h.nt, by rw [hn.1, hn.2]; exact h.ns, hclk, fun b => (hver b).1, fun b => ?_, fun i hi hfi => ?_, fun i hi hfi => ?_, fun i hi hfi hx => ?_⟩
  · rcases hst with ⟨e1, e2⟩ | ⟨a, p, q, e1, e2, ha, hp, hqp, -⟩
    · have := hown0 b; unfold stO at *; rw [e1, e2]; exact this
    · by_cases hab : a = b
      · subst hab
        unfold stO; rw [e1, e2, getD_set_eq _ _ _ _ ha, getD_set_eq _ _ _ _ (by rw [h.ns]; exact ha), hqp]
        refine ⟨fun h1 => h1, fun i hi => ?_⟩
        have : i = th := by omega
        subst this
        rw [hf]; exact hi
      · have := hown0 b; unfold stO at *; rw [e1, e2, getD_set_ne _ _ _ _ _ hab, getD_set_ne _ _ _ _ _ hab]; exact this
  · by_cases hti : th = i
    · subst hti; rw [hths, hrths, getD_set_eq _ _ _ _ hlt, getD_set_eq _ _ _ _ (by rw [h.nt]; exact hlt)]
    · rw [hthr i hti, hthr' i hti]; exact h.same i (by omega) (by rw [← hff i (Ne.symm hti)]; exact hfi)
  · have hti : th ≠ i := by intro e; subst e; rw [hf] at hfi; cases hfi
    rw [hthr i hti, hthr' i hti]; exact h.rest i (by omega) (by rw [← hff i (Ne.symm hti)]; exact hfi)
  · by_cases hti : th = i
    · subst hti; rw [hths, getD_set_eq _ _ _ _ hlt] at hx ⊢; exact hl hx
    · rw [hthr i hti] at hx ⊢
      have := h.look i (by omega) (by rw [← hff i (Ne.symm hti)]; exact hfi) hx
      have := (hver (s.ths.getD i Th.zero).stripe.toNat).2
      omega
end
section

theorem mon_step {s s' : Sh} {e : Ev} (hw : Wf s) (hm : Mon s) (h : stepS s e = some s') : Mon s' := by
  obtain ⟨th, hthe, htn, hlt, -, hk, hat, hatS, hmod, hv, hd⟩ := stepS_inv hw h
  have ht := hw.th th hlt
  have hA := hm.a th hlt
  have hC := fun b => hm.c b th
  have hD := hm.d
  have R : ∀ (q : Sh) (t' : Th), q.ths = s.ths → (q.setTh e.th t').ths = s.ths.set th t' := by intro q t' h1; simp only [Sh.setTh, h1, htn]
  generalize s.ths.getD th Th.zero = t at hd ht hA hC
  -- only the thread's record turns
  have F : ∀ (c : Int) (t' : Th), s.clock ≤ c → t'.owned = t.owned → (t'.at_ = 4 ∨ t'.at_ = 5 ∨ t'.at_ = 6 → ∀ b, t'.owned.testBit b = true → stV s b < t'.wv) → Mon ({ s with clock := c }.setTh e.th t') := by
    intro c t' h1 h2 h3
    exact hm.mk' hw hlt (R _ _ rfl) h1 (Or.inl rfl) (fun b hb => by rw [h2]; exact hC b hb) h3
  have F0 : ∀ (t' : Th), t'.owned = t.owned → (t'.at_ = 4 ∨ t'.at_ = 5 ∨ t'.at_ = 6 → ∀ b, t'.owned.testBit b = true → stV s b < t'.wv) → Mon (s.setTh e.th t') := fun t' h2 h3 => F s.clock t' (Int.le_refl _) h2 h3
  unfold doesS at hd
  by_cases k1 : e.kind = 1
  · rw [if_pos k1] at hd
    unfold beginS at hd; split at hd
    case isFalse => cases hd
    rename_i hc
    cases hd
    exact F e.v _ hc.2.2 (ht.idle (Or.inl hc.1)).symm (by simp)
  rw [if_neg k1] at hd
  by_cases k2 : e.kind = 2
  · rw [if_pos k2] at hd
    unfold lookS at hd; split at hd
    case isFalse => cases hd
    rename_i hc
    cases hd
    obtain ⟨h1, h2⟩ := hatS (by omega) (by omega)
    refine hm.mk' hw hlt (R _ _ rfl) (Int.le_refl _) (Or.inr ⟨e.at_.toNat, (-1, e.v), rfl, h2, Or.inl hc.2.1, Or.inl rfl, ?_⟩) (fun b hb => ?_) (by simp)
    · have := ht.rvb; show e.v ≤ s.clock; omega
    · rw [stO_set h2] at hb
      split at hb
      · simp only at hb; omega
      · exact hC b hb
  rw [if_neg k2] at hd
  by_cases k3 : e.kind = 3
  · rw [if_pos k3] at hd
    unfold loadS at hd; split at hd
    case isFalse => cases hd
    cases hd
    exact F0 _ rfl (by simp)
  rw [if_neg k3] at hd
  by_cases k4 : e.kind = 4
  · rw [if_pos k4] at hd
    unfold lockS at hd; split at hd
    case isFalse => cases hd
    rename_i hc
    cases hd
    obtain ⟨h1, h2⟩ := hatS (by omega) (by omega)
    refine hm.mk' hw hlt (R _ _ rfl) (Int.le_refl _) (Or.inr ⟨e.at_.toNat, (e.th, s.ver e.at_), rfl, h2, Or.inl hc.2.2, Or.inr hthe, hD e.at_.toNat⟩) (fun b hb => ?_) (by simp)
    rw [stO_set h2] at hb
    simp only [testBit_setb, Bool.or_eq_true, decide_eq_true_eq]
    split at hb
    · exact Or.inr (by omega)
    · exact Or.inl (hC b hb)
  rw [if_neg k4] at hd
  by_cases k5 : e.kind = 5
  · rw [if_pos k5] at hd
    unfold bumpS at hd; split at hd
    case isFalse => cases hd
    rename_i hc
    cases hd
    exact F e.v _ (Int.le_of_lt hc.2) rfl (fun _ b _ => by have := hD b; simp only; omega)
  rw [if_neg k5] at hd
  by_cases k6 : e.kind = 6
  · rw [if_pos k6] at hd
    unfold checkS at hd; split at hd
    case isFalse => cases hd
    rename_i hc
    cases hd
    exact F0 _ rfl (fun hx => hA hx)
  rw [if_neg k6] at hd
  by_cases k7 : e.kind = 7
  · rw [if_pos k7] at hd
    unfold commitS at hd; split at hd
    · cases hd
      exact F0 _ rfl (by simp)
    split at hd
    · rename_i hc
      cases hd
      exact F0 _ rfl (fun _ => hA (Or.inl hc.2.1))
    cases hd
  rw [if_neg k7] at hd
  by_cases k8 : e.kind = 8
  · rw [if_pos k8] at hd
    unfold storeS at hd; split at hd
    case isFalse => cases hd
    rename_i hc
    cases hd
    exact F0 _ rfl (fun hx => hA hx)
  rw [if_neg k8] at hd
  by_cases k9 : e.kind = 9
  · rw [if_pos k9] at hd
    unfold freedS at hd; split at hd
    case isFalse => cases hd
    rename_i hc
    cases hd
    obtain ⟨h1, h2⟩ := hatS (by omega) (by omega)
    have hA' := hA (by omega)
    have hbit : t.owned.testBit e.at_.toNat = true := by
      have : e.at_.toNat = leastb t.owned := by omega
      rw [this]; exact leastb_some (by omega)
    have main : ∀ t' : Th, t'.owned = clrb t.owned e.at_.toNat → t'.wv = t.wv → Mon ((s.setSt e.at_ (-1, t.wv)).setTh e.th t') := by
      intro t' o1 o2
      refine hm.mk' hw hlt (R _ _ rfl) (Int.le_refl _) (Or.inr ⟨e.at_.toNat, (-1, t.wv), rfl, h2, Or.inr (ht.own _ hbit).2, Or.inl rfl, ht.wvb.2⟩) (fun b hb => ?_) (fun _ b hb => ?_)
      · rw [stO_set h2] at hb
        split at hb
        · simp only at hb; omega
        · rename_i hne
          rw [o1, testBit_clrb, hC b hb]; simp; omega
      · rw [o1, testBit_clrb, Bool.and_eq_true] at hb
        have hne : ¬ b = e.at_.toNat := by have := hb.2; simp at this; omega
        rw [stV_set h2, if_neg hne, o2]; exact hA' b hb.1
    split
    · exact main _ rfl rfl
    · exact main _ rfl rfl
  rw [if_neg k9] at hd
  by_cases k10 : e.kind = 10
  · rw [if_pos k10] at hd
    unfold abortS at hd; split at hd
    case isFalse => cases hd
    cases hd
    exact F0 _ rfl (fun hx => by simp only at hx; split at hx <;> omega)
  rw [if_neg k10] at hd
  by_cases k11 : e.kind = 11
  · rw [if_pos k11] at hd
    unfold undoS at hd; split at hd
    case isFalse => cases hd
    rename_i hc
    cases hd
    obtain ⟨h1, h2⟩ := hatS (by omega) (by omega)
    have hbit : t.owned.testBit e.at_.toNat = true := by
      have : e.at_.toNat = leastb t.owned := by omega
      rw [this]; exact leastb_some (by omega)
    refine hm.mk' hw hlt (R _ _ rfl) (Int.le_refl _) (Or.inr ⟨e.at_.toNat, (-1, s.ver e.at_), rfl, h2, Or.inr (ht.own _ hbit).2, Or.inl rfl, hD e.at_.toNat⟩) (fun b hb => ?_) (fun hx => by simp only at hx; (repeat' split at hx) <;> omega)
    rw [stO_set h2] at hb
    split at hb
    · simp only at hb; omega
    · rename_i hne
      rw [testBit_clrb, hC b hb]; simp; omega
  rw [if_neg k11] at hd
  by_cases k12 : e.kind = 12
  · rw [if_pos k12] at hd
    unfold waitS at hd; split at hd
    case isFalse => cases hd
    cases hd
    exact F0 _ rfl (by simp)
  rw [if_neg k12] at hd
  unfold wakeS at hd; split at hd
  case isFalse => cases hd
  cases hd
  exact F0 _ rfl (by simp)
theorem newS_mon (T V S : Int) : Mon (newS T V S) := by
  have e : ∀ i, (newS T V S).ths.getD i Th.zero = Th.zero := by
    intro i; simp only [newS, List.getD_eq_getElem?_getD, List.getElem?_replicate]; split <;> rfl
  have e2 : ∀ b, stO (newS T V S) b = -1 ∧ stV (newS T V S) b = 0 := by
    intro b; unfold stO stV; simp only [newS, List.getD_eq_getElem?_getD, List.getElem?_replicate]; split <;> exact ⟨rfl, rfl⟩
  exact ⟨fun i _ hx => by rw [e] at hx; simp [Th.zero] at hx, fun b i hb => by rw [(e2 b).1] at hb; omega, fun b => by rw [(e2 b).2]; exact Int.le_refl 0⟩
end
section

theorem sts_step {s s' : Sh} {e : Ev} (hw : Wf s) (h : stepS s e = some s') (h9 : e.kind ≠ 9) (b : Nat) : stV s b ≤ stV s' b ∧ (stO s' b = stO s b ∨ ((stO s b = -1 ∨ stO s b = e.th) ∧ (stO s' b = -1 ∨ stO s' b = e.th))) := by
  obtain ⟨th, hthe, htn, hlt, -, hk, hat, hatS, hmod, hv, hd⟩ := stepS_inv hw h
  have ht := hw.th th hlt
  generalize s.ths.getD th Th.zero = t at hd ht
  unfold doesS at hd
  by_cases k1 : e.kind = 1
  · rw [if_pos k1] at hd
    unfold beginS at hd; split at hd
    case isFalse => cases hd
    cases hd; exact ⟨Int.le_refl _, Or.inl rfl⟩
  rw [if_neg k1] at hd
  by_cases k2 : e.kind = 2
  · rw [if_pos k2] at hd
    unfold lookS at hd; split at hd
    case isFalse => cases hd
    rename_i hc
    cases hd
    obtain ⟨h1, h2⟩ := hatS (by omega) (by omega)
    rw [stV_set h2, stO_set h2]
    split
    · rename_i hb; subst hb; exact ⟨hc.2.2.1, Or.inl hc.2.1.symm⟩
    · exact ⟨Int.le_refl _, Or.inl rfl⟩
  rw [if_neg k2] at hd
  by_cases k3 : e.kind = 3
  · rw [if_pos k3] at hd
    unfold loadS at hd; split at hd
    case isFalse => cases hd
    cases hd; exact ⟨Int.le_refl _, Or.inl rfl⟩
  rw [if_neg k3] at hd
  by_cases k4 : e.kind = 4
  · rw [if_pos k4] at hd
    unfold lockS at hd; split at hd
    case isFalse => cases hd
    rename_i hc
    cases hd
    obtain ⟨h1, h2⟩ := hatS (by omega) (by omega)
    rw [stV_set h2, stO_set h2]
    split
    · rename_i hb; subst hb; exact ⟨Int.le_refl _, Or.inr ⟨Or.inl hc.2.2, Or.inr rfl⟩⟩
    · exact ⟨Int.le_refl _, Or.inl rfl⟩
  rw [if_neg k4] at hd
  by_cases k5 : e.kind = 5
  · rw [if_pos k5] at hd
    unfold bumpS at hd; split at hd
    case isFalse => cases hd
    cases hd; exact ⟨Int.le_refl _, Or.inl rfl⟩
  rw [if_neg k5] at hd
  by_cases k6 : e.kind = 6
  · rw [if_pos k6] at hd
    unfold checkS at hd; split at hd
    case isFalse => cases hd
    cases hd; exact ⟨Int.le_refl _, Or.inl rfl⟩
  rw [if_neg k6] at hd
  by_cases k7 : e.kind = 7
  · rw [if_pos k7] at hd
    unfold commitS at hd; split at hd
    · cases hd; exact ⟨Int.le_refl _, Or.inl rfl⟩
    split at hd
    · cases hd; exact ⟨Int.le_refl _, Or.inl rfl⟩
    cases hd
  rw [if_neg k7] at hd
  by_cases k8 : e.kind = 8
  · rw [if_pos k8] at hd
    unfold storeS at hd; split at hd
    case isFalse => cases hd
    cases hd; exact ⟨Int.le_refl _, Or.inl rfl⟩
  rw [if_neg k8, if_neg h9] at hd
  by_cases k10 : e.kind = 10
  · rw [if_pos k10] at hd
    unfold abortS at hd; split at hd
    case isFalse => cases hd
    cases hd; exact ⟨Int.le_refl _, Or.inl rfl⟩
  rw [if_neg k10] at hd
  by_cases k11 : e.kind = 11
  · rw [if_pos k11] at hd
    unfold undoS at hd; split at hd
    case isFalse => cases hd
    rename_i hc
    cases hd
    obtain ⟨h1, h2⟩ := hatS (by omega) (by omega)
    have hbit : t.owned.testBit e.at_.toNat = true := by
      have : e.at_.toNat = leastb t.owned := by omega
      rw [this]; exact leastb_some (by omega)
    rw [stV_set h2, stO_set h2]
    split
    · rename_i hb; subst hb
      exact ⟨Int.le_refl _, Or.inr ⟨Or.inr (by rw [hthe]; exact (ht.own _ hbit).2), Or.inl rfl⟩⟩
    · exact ⟨Int.le_refl _, Or.inl rfl⟩
  rw [if_neg k11] at hd
  by_cases k12 : e.kind = 12
  · rw [if_pos k12] at hd
    unfold waitS at hd; split at hd
    case isFalse => cases hd
    cases hd; exact ⟨Int.le_refl _, Or.inl rfl⟩
  rw [if_neg k12] at hd
  unfold wakeS at hd; split at hd
  case isFalse => cases hd
  cases hd; exact ⟨Int.le_refl _, Or.inl rfl⟩

theorem sim_drop {s r s1 : Sh} {f : Nat → Bool} {e : Ev} {l : List Ev} (hw : Wf s) (hm : Mon s) (h : Sim s r f) (hs : stepS s e = some s1)
    (hf : nextF f e l e.th.toNat = true) (hk : e.kind ≠ 7 ∧ e.kind ≠ 8 ∧ e.kind ≠ 9) : Sim s1 r (nextF f e l) := by
  obtain ⟨th, t', e1, e2, e3, e4, e5, hmv, hcm, hck⟩ := at_step hw hs
  have htn : e.th.toNat = th := by omega
  rw [htn] at hf
  refine h.drop e2 e3 e4 e5 hck hf (fun i hi => nextF_ne (by omega)) (hcm hk.1 hk.2.2) (fun hft => ?_) (fun b => (sts_step hw hs hk.2.2 b).1) (fun b => ?_)
  · by_cases k1 : e.kind = 1
    · have h0 : (s.ths.getD th Th.zero).at_ = 0 := by unfold Moves at hmv; omega
      refine ⟨h0, fun b hb => ?_⟩
      have := hm.c b th hb
      rw [(hw.th th e2).idle (Or.inl h0), Nat.zero_testBit] at this
      cases this
    · rw [nextF_same k1, hft] at hf; cases hf
  · have := (sts_step hw hs hk.2.2 b).2
    rw [e1] at this; exact this

theorem sim_keep {s r s1 : Sh} {f : Nat → Bool} {e : Ev} {l : List Ev} (hw : Wf s) (hm : Mon s) (h : Sim s r f) (hs : stepS s e = some s1)
    (hf : nextF f e l e.th.toNat = false) (hk : e.kind ≠ 10 ∧ e.kind ≠ 11 ∧ e.kind ≠ 12 ∧ e.kind ≠ 13) : ∃ r1, stepS r e = some r1 ∧ Sim s1 r1 (nextF f e l) := by
  obtain ⟨th, hthe, htn, hlt, hmay, hk13, hat, hatS, hmod, hv, hd⟩ := stepS_inv hw hs
  have ht := hw.th th hlt
  have hA := hm.a th hlt
  have hC := fun b => hm.c b th
  rw [htn] at hf
  have hn : r.n = s.n := by unfold Sh.n; rw [h.ns]
  have hmr : mayE e r.ths.length r.vars r.n = true := by rw [h.nt, h.vars, hn]; exact hmay
  have hR : r.th e.th = r.ths.getD th Th.zero := by unfold Sh.th; rw [htn]
  have R : ∀ (x q : Sh) (t' : Th), q.ths = x.ths → (q.setTh e.th t').ths = x.ths.set th t' := by intro x q t' h1; simp only [Sh.setTh, h1, htn]
  have hff : ∀ i, i ≠ th → nextF f e l i = f i := fun i hi => nextF_ne (by omega)
  have hsame := h.same th hlt
  have hrest := h.rest th hlt
  have hlook := h.look th hlt
  unfold stepS
  rw [if_pos hmr, hR]
  generalize hgt : s.ths.getD th Th.zero = t at hd ht hA hC hsame hrest hlook
  unfold doesS at hd ⊢
  by_cases k1 : e.kind = 1
  · rw [if_pos k1] at hd ⊢
    unfold beginS at hd ⊢; split at hd
    case isFalse => cases hd
    rename_i hc
    cases hd
    have hr0 : (r.ths.getD th Th.zero).at_ = 0 ∧ (r.ths.getD th Th.zero).commits = t.commits := by
      cases hft : f th with
      | false => rw [hsame hft]; exact ⟨hc.1, rfl⟩
      | true => exact hrest hft
    have hclk := h.clk
    rw [if_pos ⟨hr0.1, by rw [hr0.2]; exact hc.2.1, by omega⟩, hr0.2]
    refine ⟨_, rfl, h.keep hlt (R s { s with clock := e.v } _ rfl) (R r { r with clock := e.v } _ rfl) rfl rfl (Int.le_refl _) hf hff (fun _ b hb => ?_) (Or.inl ⟨rfl, rfl⟩) (by simp)⟩
    have := hC b hb
    rw [ht.idle (Or.inl hc.1), Nat.zero_testBit] at this
    cases this
  have hnf : nextF f e l = f := nextF_same k1
  rw [hnf] at hf hff ⊢
  rw [hsame hf]
  have hlook := hlook hf
  have h0 : f th = true → ∀ b, stO s b ≠ (th : Int) := by intro hx; rw [hf] at hx; cases hx
  have hclk := h.clk
  -- only the thread's record turns
  have K0 : ∀ (t' : Th), (t'.at_ = 2 → t'.v ≤ stV r t'.stripe.toNat) → Sim (s.setTh e.th t') (r.setTh e.th t') f := fun t' hl =>
    h.keep hlt (R s s _ rfl) (R r r _ rfl) rfl rfl hclk hf hff h0 (Or.inl ⟨rfl, rfl⟩) hl
  rw [if_neg k1] at hd ⊢
  by_cases k2 : e.kind = 2
  · rw [if_pos k2] at hd ⊢
    unfold lookS at hd ⊢; split at hd
    case isFalse => cases hd
    rename_i hc
    cases hd
    obtain ⟨h1, h2⟩ := hatS (by omega) (by omega)
    have ho : r.own e.at_ = -1 := (h.own e.at_.toNat).1 hc.2.1
    have hvr : stV r e.at_.toNat ≤ stV s e.at_.toNat := h.ver _
    have hvs : stV s e.at_.toNat = s.ver e.at_ := rfl
    have hvr' : stV r e.at_.toNat = r.ver e.at_ := rfl
    rw [if_pos ⟨hc.1, ho, by omega, hc.2.2.2⟩]
    refine ⟨_, rfl, h.keep hlt (R s (s.setSt e.at_ (-1, e.v)) _ rfl) (R r (r.setSt e.at_ (-1, e.v)) _ rfl) rfl rfl hclk hf hff h0 (Or.inr ⟨e.at_.toNat, (-1, e.v), (-1, e.v), rfl, rfl, h2, Or.inl rfl, rfl, Int.le_refl _, by simp only; omega⟩) (fun _ => ?_)⟩
    show e.v ≤ _
    rw [stV_set (by rw [h.ns]; exact h2), if_pos rfl]
    exact Int.le_refl _
  rw [if_neg k2] at hd ⊢
  by_cases k3 : e.kind = 3
  · rw [if_pos k3] at hd ⊢
    unfold loadS at hd ⊢; split at hd
    case isFalse => cases hd
    rename_i hc
    cases hd
    have ho : r.own t.stripe = -1 := (h.own t.stripe.toNat).1 hc.2.2.1
    have hvr : stV r t.stripe.toNat ≤ stV s t.stripe.toNat := h.ver _
    have hvs : stV s t.stripe.toNat = s.ver t.stripe := rfl
    have hvr' : stV r t.stripe.toNat = r.ver t.stripe := rfl
    have := hlook hc.1
    rw [if_pos ⟨hc.1, by rw [hn]; exact hc.2.1, ho, by omega⟩]
    exact ⟨_, rfl, K0 _ (by simp)⟩
  rw [if_neg k3] at hd ⊢
  by_cases k4 : e.kind = 4
  · rw [if_pos k4] at hd ⊢
    unfold lockS at hd ⊢; split at hd
    case isFalse => cases hd
    rename_i hc
    cases hd
    obtain ⟨h1, h2⟩ := hatS (by omega) (by omega)
    have ho : r.own e.at_ = -1 := (h.own e.at_.toNat).1 hc.2.2
    rw [if_pos ⟨hc.1, hc.2.1, ho⟩]
    exact ⟨_, rfl, h.keep hlt (R s (s.setSt e.at_ (e.th, s.ver e.at_)) _ rfl) (R r (r.setSt e.at_ (e.th, r.ver e.at_)) _ rfl) rfl rfl hclk hf hff h0 (Or.inr ⟨e.at_.toNat, (e.th, s.ver e.at_), (e.th, r.ver e.at_), rfl, rfl, h2, Or.inr hthe, rfl, h.ver _, Int.le_refl _⟩) (by simp)⟩
  rw [if_neg k4] at hd ⊢
  by_cases k5 : e.kind = 5
  · rw [if_pos k5] at hd ⊢
    unfold bumpS at hd ⊢; split at hd
    case isFalse => cases hd
    rename_i hc
    cases hd
    rw [if_pos ⟨hc.1, by omega⟩]
    exact ⟨_, rfl, h.keep hlt (R s { s with clock := e.v } _ rfl) (R r { r with clock := e.v } _ rfl) rfl rfl (Int.le_refl _) hf hff h0 (Or.inl ⟨rfl, rfl⟩) (by simp)⟩
  rw [if_neg k5] at hd ⊢
  by_cases k6 : e.kind = 6
  · rw [if_pos k6] at hd ⊢
    unfold checkS at hd ⊢; split at hd
    case isFalse => cases hd
    rename_i hc
    cases hd
    have hvr : stV r e.at_.toNat ≤ stV s e.at_.toNat := h.ver _
    have hvs : stV s e.at_.toNat = s.ver e.at_ := rfl
    have hvr' : stV r e.at_.toNat = r.ver e.at_ := rfl
    have ho : r.oth e.at_ e.th = false := by
      have h3 := hc.2.2.1
      unfold Sh.oth at h3 ⊢
      rw [decide_eq_false_iff_not] at h3 ⊢
      intro ⟨h4, h5⟩
      apply h3
      have ho1 := h.own e.at_.toNat
      have e1 : stO s e.at_.toNat = s.own e.at_ := rfl
      have e2 : stO r e.at_.toNat = r.own e.at_ := rfl
      rw [e1, e2] at ho1
      refine ⟨fun h6 => h4 (ho1.1 h6), fun h6 => h5 ?_⟩
      have := ho1.2 th (by omega)
      rw [hf] at this
      simpa [hthe] using this
    rw [if_pos ⟨hc.1, hc.2.1, ho, by omega⟩]
    exact ⟨_, rfl, K0 _ (fun hx => by have := hc.1; simp only at hx; omega)⟩
  rw [if_neg k6] at hd ⊢
  by_cases k7 : e.kind = 7
  · rw [if_pos k7] at hd ⊢
    unfold commitS at hd ⊢; split at hd
    · rename_i hc
      cases hd
      rw [if_pos hc]
      exact ⟨_, rfl, K0 _ (by simp)⟩
    rename_i hc0
    split at hd
    · rename_i hc
      cases hd
      rw [if_neg hc0, if_pos hc]
      exact ⟨_, rfl, K0 _ (by simp)⟩
    cases hd
  rw [if_neg k7] at hd ⊢
  by_cases k8 : e.kind = 8
  · rw [if_pos k8] at hd ⊢
    unfold storeS at hd ⊢; split at hd
    case isFalse => cases hd
    rename_i hc
    cases hd
    rw [if_pos ⟨hc.1, hc.2.1, by rw [hn]; exact hc.2.2⟩, hn]
    exact ⟨_, rfl, K0 _ (fun hx => by have := hc.1; simp only at hx; omega)⟩
  rw [if_neg k8] at hd ⊢
  have k9 : e.kind = 9 := by omega
  rw [if_pos k9] at hd ⊢
  unfold freedS at hd ⊢; split at hd
  case isFalse => cases hd
  rename_i hc
  cases hd
  obtain ⟨h1, h2⟩ := hatS (by omega) (by omega)
  have hbit : t.owned.testBit e.at_.toNat = true := by
    have : e.at_.toNat = leastb t.owned := by omega
    rw [this]; exact leastb_some (by omega)
  have hlt' := hA (by omega) _ hbit
  have hvr : stV r e.at_.toNat ≤ stV s e.at_.toNat := h.ver _
  rw [if_pos hc]
  refine ⟨_, rfl, h.keep hlt (R s (s.setSt e.at_ (-1, t.wv)) _ rfl) (R r (r.setSt e.at_ (-1, t.wv)) _ rfl) rfl rfl hclk hf hff h0 (Or.inr ⟨e.at_.toNat, (-1, t.wv), (-1, t.wv), rfl, rfl, h2, Or.inl rfl, rfl, Int.le_refl _, by simp only; omega⟩) (fun hx => ?_)⟩
  split at hx <;> simp at hx

/-- What is kept of some events: f says whose attempt goes. -/
def keepF (f : Nat → Bool) : List Ev → List Ev
  | [] => []
  | e :: l => if nextF f e l e.th.toNat = true then keepF (nextF f e l) l else e :: keepF (nextF f e l) l
theorem kept_runs : ∀ (l : List Ev) {s r s' : Sh} {f : Nat → Bool}, Wf s → Mon s → Sim s r f → FlagS s f l → runS s l = some s' → ∃ r', runS r (keepF f l) = some r'
  | [], s, r, s', f, _, _, _, _, _ => ⟨r, rfl⟩
  | e :: l, s, r, s', f, hw, hm, h, hF, hrun => by
    unfold runS at hrun
    cases hs : stepS s e with
    | none => rw [hs] at hrun; cases hrun
    | some s1 =>
      rw [hs] at hrun
      obtain ⟨hF', k1, k2⟩ := hF.step hw hs hrun
      have hw' := stepS_wf hw hs
      have hm' := mon_step hw hm hs
      unfold keepF
      cases hg : nextF f e l e.th.toNat with
      | true =>
        rw [if_pos rfl]
        exact kept_runs l hw' hm' (sim_drop hw hm h hs hg (k2 hg)) hF' hrun
      | false =>
        rw [if_neg (by decide)]
        obtain ⟨r1, hr1, hS⟩ := sim_keep hw hm h hs hg (k1 hg)
        unfold runS
        rw [hr1]
        exact kept_runs l hw' hm' hS hF' hrun
theorem sim_new (T V S : Int) : Sim (newS T V S) (newS T V S) (fun _ => false) := by
  refine ⟨rfl, rfl, rfl, Int.le_refl _, fun _ => Int.le_refl _, fun b => ⟨fun h => h, fun i h => by rw [if_neg (by decide)]; exact h⟩, fun _ _ _ => rfl, fun _ _ h => (by cases h), fun i hi _ hx => ?_⟩
  have e : (newS T V S).ths.getD i Th.zero = Th.zero := by simp only [newS, List.getD_eq_getElem?_getD, List.getElem?_replicate]; split <;> rfl
  rw [e] at hx; simp [Th.zero] at hx
theorem flag_new {T V S : Int} {l : List Ev} {s' : Sh} (hz : sizeOk T V S = true) (h : runS (newS T V S) l = some s') : FlagS (newS T V S) (fun _ => false) l := by
  intro i hi
  have e : (newS T V S).ths.getD i Th.zero = Th.zero := by simp only [newS, List.getD_eq_getElem?_getD, List.getElem?_replicate]; split <;> rfl
  refine ⟨fun _ => ⟨goneR_no l (newS_wf hz) h hi (Or.inl (by rw [e]; rfl)), by rw [e]; simp [Th.zero]⟩, fun hx => by cases hx⟩
theorem kept_fine {T V S : Int} {l : List Ev} {s' : Sh} (hz : sizeOk T V S = true) (h : runS (newS T V S) l = some s') : ∃ r', runS (newS T V S) (keepF (fun _ => false) l) = some r' :=
  kept_runs l (newS_wf hz) (newS_mon T V S) (sim_new T V S) (flag_new hz h) h
end
section

/-- How many Begins of a thread there are. -/
def cntB (th : Int) : List Ev → Nat
  | [] => 0
  | e :: l => (if e.th = th ∧ e.kind = 1 then 1 else 0) + cntB th l
/-- Is the n-th attempt of a thread one that aborts, or waits? (c: how many have begun ahead.) -/
def gon (th : Int) (n c : Nat) : List Ev → Bool
  | [] => false
  | e :: l => if e.th = th then (if e.kind = 1 then gon th n (c + 1) l else (decide (c = n ∧ (e.kind = 10 ∨ e.kind = 12)) || gon th n c l)) else gon th n c l
theorem cntB_cons (th : Int) (e : Ev) (l : List Ev) : cntB th (e :: l) = (if e.th = th ∧ e.kind = 1 then 1 else 0) + cntB th l := rfl
theorem gon_cons (th : Int) (n c : Nat) (e : Ev) (l : List Ev) : gon th n c (e :: l) = if e.th = th then (if e.kind = 1 then gon th n (c + 1) l else (decide (c = n ∧ (e.kind = 10 ∨ e.kind = 12)) || gon th n c l)) else gon th n c l := rfl
theorem cntB_append (th : Int) : ∀ p q : List Ev, cntB th (p ++ q) = cntB th p + cntB th q
  | [], q => by simp [cntB]
  | e :: p, q => by rw [List.cons_append, cntB_cons, cntB_cons, cntB_append th p q]; omega
theorem cntB_le (th : Int) : ∀ l : List Ev, cntB th l ≤ l.length
  | [] => Nat.le_refl _
  | e :: l => by rw [cntB_cons, List.length_cons]; have := cntB_le th l; split <;> omega
theorem gon_append (th : Int) (n : Nat) : ∀ (p q : List Ev) (c : Nat), gon th n c (p ++ q) = (gon th n c p || gon th n (c + cntB th p) q)
  | [], q, c => by simp [gon, cntB]
  | e :: p, q, c => by
    rw [List.cons_append, gon_cons, gon_cons, cntB_cons]
    by_cases h : e.th = th
    · rw [if_pos h, if_pos h]
      by_cases k : e.kind = 1
      · rw [if_pos k, if_pos k, if_pos ⟨h, k⟩, gon_append th n p q (c + 1), Nat.add_assoc]
      · rw [if_neg k, if_neg k, if_neg (by intro h'; exact k h'.2), gon_append th n p q c, Nat.zero_add, Bool.or_assoc]
    · rw [if_neg h, if_neg h, if_neg (by intro h'; exact h h'.1), gon_append th n p q c, Nat.zero_add]
theorem gon_over (th : Int) {n : Nat} : ∀ (l : List Ev) (c : Nat), n < c → gon th n c l = false
  | [], _, _ => rfl
  | e :: l, c, h => by
    rw [gon_cons, gon_over th l c h, gon_over th l (c + 1) (by omega)]
    have : decide (c = n ∧ (e.kind = 10 ∨ e.kind = 12)) = false := by rw [decide_eq_false_iff_not]; omega
    rw [this]; simp
theorem gon_past (th : Int) {n : Nat} : ∀ (l : List Ev) (c : Nat), c + cntB th l < n → gon th n c l = false
  | [], _, _ => rfl
  | e :: l, c, h => by
    rw [cntB_cons] at h
    rw [gon_cons]
    by_cases he : e.th = th
    · rw [if_pos he]
      by_cases k : e.kind = 1
      · rw [if_pos k]; rw [if_pos ⟨he, k⟩] at h; exact gon_past th l (c + 1) (by omega)
      · rw [if_neg k, gon_past th l c (by omega)]
        have : decide (c = n ∧ (e.kind = 10 ∨ e.kind = 12)) = false := by rw [decide_eq_false_iff_not]; omega
        rw [this]; rfl
    · rw [if_neg he]; exact gon_past th l c (by omega)
theorem gon_here (th : Int) (c : Nat) : ∀ l : List Ev, gon th c c l = goneR th l
  | [] => rfl
  | e :: l => by
    rw [gon_cons, goneR_cons]
    by_cases he : e.th = th
    · rw [if_pos he]
      by_cases k : e.kind = 1
      · rw [if_pos k, if_pos ⟨he, Or.inl k⟩, gon_over th l (c + 1) (by omega)]
        symm; rw [decide_eq_false_iff_not]; omega
      · rw [if_neg k]
        by_cases k2 : e.kind = 10 ∨ e.kind = 12
        · rw [if_pos ⟨he, Or.inr k2⟩]
          have h1 : decide (c = c ∧ (e.kind = 10 ∨ e.kind = 12)) = true := by rw [decide_eq_true_eq]; exact ⟨rfl, k2⟩
          have h2 : decide (e.kind ≠ 1) = true := by rw [decide_eq_true_eq]; exact k
          rw [h1, h2]; rfl
        · rw [if_neg (by intro h; exact k2 (h.2.resolve_left k)), gon_here th c l]
          have h1 : decide (c = c ∧ (e.kind = 10 ∨ e.kind = 12)) = false := by rw [decide_eq_false_iff_not]; intro h; exact k2 h.2
          rw [h1]; rfl
    · rw [if_neg he, if_neg (by intro h; exact he h.1), gon_here th c l]
/-- Which attempt of its thread an event is of. -/
def ofAt (L : List Ev) (k : Nat) : Nat := match L[k]? with
  | some e => cntB e.th (L.take (k + 1))
  | none => 0
/-- Does it go? -/
def goes (L : List Ev) (e : Ev) (k : Nat) : Bool := gon e.th (cntB e.th (L.take (k + 1))) 0 L
/-- What is kept of the first k events. -/
def keptL (L : List Ev) : Nat → List Ev
  | 0 => []
  | k + 1 => match L[k]? with
    | some e => if goes L e k = true then keptL L k else keptL L k ++ [e]
    | none => keptL L k
theorem keptL_step (L : List Ev) (k : Nat) (h : k < L.length) : keptL L (k + 1) = if goes L L[k] k = true then keptL L k else keptL L k ++ [L[k]] := by
  conv => lhs; unfold keptL
  rw [List.getElem?_eq_getElem h]
theorem keptL_len (L : List Ev) : ∀ k, (keptL L k).length ≤ k
  | 0 => Nat.le_refl _
  | k + 1 => by
    have := keptL_len L k
    unfold keptL
    split
    · split
      · omega
      · rw [List.length_append, List.length_singleton]; omega
    · omega
def flagAt (L : List Ev) (k : Nat) : Nat → Bool := fun i => gon (i : Int) (cntB (i : Int) (L.take k)) 0 L
theorem flagAt_next (L : List Ev) (k : Nat) (h : k < L.length) : nextF (flagAt L k) L[k] (L.drop (k + 1)) = flagAt L (k + 1) := by
  funext i
  unfold nextF flagAt
  have e : L.take (k + 1) = L.take k ++ [L[k]] := List.take_succ_eq_append_getElem h
  have hc : cntB (i : Int) (L.take (k + 1)) = cntB (i : Int) (L.take k) + (if L[k].th = (i : Int) ∧ L[k].kind = 1 then 1 else 0) := by
    rw [e, cntB_append]; simp [cntB]
  by_cases hb : L[k].kind = 1 ∧ L[k].th = (i : Int)
  · rw [if_pos hb]
    rw [if_pos ⟨hb.2, hb.1⟩] at hc
    have hL : L = L.take (k + 1) ++ L.drop (k + 1) := (List.take_append_drop _ _).symm
    conv => rhs; rw [hL]
    rw [List.take_left' (by rw [List.length_take]; omega), gon_append, Nat.zero_add, gon_here]
    have h1 : gon (i : Int) (cntB (i : Int) (L.take (k + 1))) 0 (L.take (k + 1)) = false := by
      conv => lhs; rw [e]
      rw [gon_append, gon_past (i : Int) (L.take k) 0 (by rw [← e]; omega)]
      rw [gon_cons, if_pos hb.2, if_pos hb.1]; rfl
    rw [h1]; rfl
  · rw [if_neg hb]
    rw [if_neg (by intro h'; exact hb ⟨h'.2, h'.1⟩)] at hc
    rw [hc, Nat.add_zero]
theorem kept_split (L : List Ev) (hL : ∀ e ∈ L, 0 ≤ e.th) : ∀ k, k ≤ L.length → keptL L k ++ keepF (flagAt L k) (L.drop k) = keepF (flagAt L 0) L
  | 0, _ => by rw [List.drop_zero]; rfl
  | k + 1, h => by
    have hk : k < L.length := by omega
    rw [← kept_split L hL k (by omega), List.drop_eq_getElem_cons hk, keptL_step L k hk]
    conv => rhs; unfold keepF
    rw [flagAt_next L k hk]
    have hth := hL L[k] (List.getElem_mem hk)
    have hg : flagAt L (k + 1) L[k].th.toNat = goes L L[k] k := by
      unfold flagAt goes
      rw [Int.toNat_of_nonneg hth]
    rw [hg]
    cases goes L L[k] k with
    | true => rw [if_pos rfl, if_pos rfl]
    | false => rw [if_neg (by decide), if_neg (by decide), List.append_assoc]; rfl
theorem kept_all (L : List Ev) (hL : ∀ e ∈ L, 0 ≤ e.th) : keptL L L.length = keepF (flagAt L 0) L := by
  have := kept_split L hL L.length (Nat.le_refl _)
  rw [List.drop_length, show keepF (flagAt L L.length) [] = [] from rfl, List.append_nil] at this
  exact this
theorem kept_runs0 {T V S : Int} {l : List Ev} {s' : Sh} (hz : sizeOk T V S = true) (h : runS (newS T V S) l = some s') (f : Nat → Bool) : ∃ r', runS (newS T V S) (keepF f l) = some r' := by
  have e : ∀ i, (newS T V S).ths.getD i Th.zero = Th.zero := by
    intro i; simp only [newS, List.getD_eq_getElem?_getD, List.getElem?_replicate]; split <;> rfl
  have e2 : ∀ b, stO (newS T V S) b = -1 := by
    intro b; unfold stO; simp only [newS, List.getD_eq_getElem?_getD, List.getElem?_replicate]; split <;> rfl
  refine kept_runs l (newS_wf hz) (newS_mon T V S) ?_ ?_ h
  · exact ⟨rfl, rfl, rfl, Int.le_refl _, fun _ => Int.le_refl _, fun b => ⟨fun h => h, fun i h => by (rw [e2] at h; omega)⟩, fun _ _ _ => rfl, fun i _ _ => by (rw [e]; exact ⟨rfl, rfl⟩), fun i _ _ hx => by (rw [e] at hx; simp [Th.zero] at hx)⟩
  · intro i hi
    rw [e]
    exact ⟨fun _ => ⟨goneR_no l (newS_wf hz) h hi (Or.inl (by rw [e]; rfl)), by simp [Th.zero]⟩, fun _ => ⟨by simp [Th.zero], by simp [Th.zero], by simp [Th.zero]⟩⟩
theorem run_th : ∀ (l : List Ev) {s s' : Sh}, Wf s → runS s l = some s' → ∀ e ∈ l, 0 ≤ e.th
  | [], _, _, _, _, e, he => by cases he
  | x :: l, s, s', hw, h, e, he => by
    unfold runS at h
    cases hs : stepS s x with
    | none => rw [hs] at h; cases h
    | some r =>
      rw [hs] at h
      rcases List.mem_cons.1 he with rfl | he
      · obtain ⟨th, t', h1, -⟩ := at_step hw hs; omega
      · exact run_th l (stepS_wf hw hs) h e he
theorem keptL_fine {T V S : Int} {l : List Ev} (hl : l.length ≤ 2000) (hz : sizeOk T V S = true) (hall : comesS (newS T V S) l = l.length) : fineT T V S (keptL l l.length) = true := by
  have h := (comes_iff l (newS T V S)).1 hall
  obtain ⟨s', hs⟩ := Option.isSome_iff_exists.1 h
  obtain ⟨r', hr⟩ := kept_runs0 hz hs (flagAt l 0)
  rw [← kept_all l (run_th l (newS_wf hz) hs)] at hr
  have hc := (comes_iff (keptL l l.length) (newS T V S)).2 (by rw [hr]; rfl)
  have hlen := keptL_len l l.length
  unfold fineT checkT
  rw [if_neg (by rw [hz]; decide), if_neg (by omega), hc, if_neg (by omega)]
  simp
end
end Go.Proofs.YtmgchpijkdammaaDoor
