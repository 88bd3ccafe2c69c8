/-
  The checker's machine: what each event says, for the laws on owners and versions. Nothing of the program.
-/
import Derived.Test.YtcdgfnocjnampaaShJ
namespace Go.Proofs.Ytcdgfnocjnampaa
set_option linter.unusedVariables false

def stO (s : Sh) (i : Nat) : Int := (s.sts.getD i (-1, 0)).1
def stV (s : Sh) (i : Nat) : Int := (s.sts.getD i (-1, 0)).2
theorem stepS_inv {s s' : Sh} {e : Ev} (hw : Wf s) (h : stepS s e = some s') : ∃ th : Nat, e.th = (th : Int) ∧ e.th.toNat = th ∧ th < s.ths.length ∧ mayE e s.ths.length s.vars s.n = true ∧ (1 ≤ e.kind ∧ e.kind ≤ 13) ∧
    (0 ≤ e.at_ ∧ e.at_ < s.vars ∧ s.vars ≤ 32) ∧ (e.kind ≠ 3 → e.kind ≠ 8 → e.at_ < s.n ∧ e.at_.toNat < s.sts.length) ∧ (0 ≤ e.at_ % s.n ∧ e.at_ % s.n < s.n) ∧ (0 ≤ e.v ∧ e.v ≤ 1099511627776) ∧ doesS s (s.ths.getD th Th.zero) e = some s' := by
  unfold stepS at h
  split at h
  case isFalse => cases h
  rename_i hm
  obtain ⟨hk, hth, htx, hv, hat, hS⟩ := mayE_of hm
  obtain ⟨th, hthe⟩ := Int.eq_ofNat_of_zero_le hth.1
  have hlt : th < s.ths.length := by omega
  have htn : e.th.toNat = th := by omega
  have hT : s.th e.th = s.ths.getD th Th.zero := by unfold Sh.th; rw [htn]
  rw [hT] at h
  have hpv := places_V (e := e) hS.1 hS.2.1
  refine ⟨th, hthe, htn, hlt, hm, hk, ⟨hat.1, by omega, by omega⟩, fun h3 h8 => ?_, mod_in hS.1, hv, h⟩
  have hp := places_S (e := e) (V := s.vars) (S := s.n) h3 h8 hS.1
  have : s.n = s.sts.length := rfl
  omega

/-- What an event says of the stripes' owners. -/
theorem owner_step {s s' : Sh} {e : Ev} (hw : Wf s) (h : stepS s e = some s') :
    (e.kind = 4 → (e.at_.toNat < 32 ∧ stO s e.at_.toNat = -1 ∧ ∀ i, stO s' i = if i = e.at_.toNat then e.th else stO s i)) ∧
    (e.kind = 9 ∨ e.kind = 11 → (e.at_.toNat < 32 ∧ stO s e.at_.toNat = e.th ∧ ∀ i, stO s' i = if i = e.at_.toNat then -1 else stO s i)) ∧
    (e.kind = 2 → (e.at_.toNat < 32 ∧ stO s e.at_.toNat = -1)) ∧
    (e.kind = 3 → ((e.at_ % s.n).toNat < 32 ∧ stO s (e.at_ % s.n).toNat = -1)) ∧
    (e.kind = 8 → ((e.at_ % s.n).toNat < 32 ∧ stO s (e.at_ % s.n).toNat = e.th)) ∧
    (e.kind ≠ 4 → e.kind ≠ 9 → e.kind ≠ 11 → ∀ i, stO s' i = stO s i) := by
  obtain ⟨th, hthe, htn, hlt, hm, hk, hat, hatS, hmod, hv, hd⟩ := stepS_inv hw h
  have ht := hw.th th hlt
  generalize s.ths.getD th Th.zero = t at hd ht
  have hsz := hw.size
  have hsn : s.n = s.sts.length := rfl
  have same : ∀ (t' : Th) (i : Nat), stO (s.setTh e.th t') i = stO s i := fun _ _ => rfl
  unfold doesS at hd
  by_cases k1 : e.kind = 1
  · rw [if_pos k1] at hd
    unfold beginS at hd; split at hd
    case isFalse => cases hd
    cases hd
    exact ⟨by omega, by omega, by omega, by omega, by omega, fun _ _ _ _ => rfl⟩
  rw [if_neg k1] at hd
  by_cases k2 : e.kind = 2
  · rw [if_pos k2] at hd
    unfold lookS at hd; split at hd
    case isFalse => cases hd
    rename_i hc
    cases hd
    obtain ⟨h1, h2⟩ := hatS (by omega) (by omega)
    refine ⟨by omega, by omega, fun _ => ⟨by omega, hc.2.1⟩, by omega, by omega, fun _ _ _ i => ?_⟩
    show ((s.sts.set e.at_.toNat (-1, e.v)).getD i (-1, 0)).1 = _
    by_cases hi : e.at_.toNat = i
    · subst hi; rw [getD_set_eq _ _ _ _ h2]; exact hc.2.1.symm
    · rw [getD_set_ne _ _ _ _ _ hi]; rfl
  rw [if_neg k2] at hd
  by_cases k3 : e.kind = 3
  · rw [if_pos k3] at hd
    unfold loadS at hd; split at hd
    case isFalse => cases hd
    rename_i hc
    cases hd
    exact ⟨by omega, by omega, by omega, fun _ => ⟨by omega, by have := hc.2.2.1; rw [← hc.2.1] at this; exact this⟩, by omega, fun _ _ _ _ => rfl⟩
  rw [if_neg k3] at hd
  by_cases k4 : e.kind = 4
  · rw [if_pos k4] at hd
    unfold lockS at hd; split at hd
    case isFalse => cases hd
    rename_i hc
    cases hd
    obtain ⟨h1, h2⟩ := hatS (by omega) (by omega)
    refine ⟨fun _ => ⟨by omega, hc.2.2, fun i => ?_⟩, by omega, by omega, by omega, by omega, by omega⟩
    show ((s.sts.set e.at_.toNat (e.th, s.ver e.at_)).getD i (-1, 0)).1 = _
    by_cases hi : e.at_.toNat = i
    · subst hi; rw [getD_set_eq _ _ _ _ h2, if_pos rfl]
    · rw [getD_set_ne _ _ _ _ _ hi, if_neg (Ne.symm hi)]; rfl
  rw [if_neg k4] at hd
  by_cases k5 : e.kind = 5
  · rw [if_pos k5] at hd
    unfold bumpS at hd; split at hd
    case isFalse => cases hd
    cases hd
    exact ⟨by omega, by omega, by omega, by omega, by omega, fun _ _ _ _ => rfl⟩
  rw [if_neg k5] at hd
  by_cases k6 : e.kind = 6
  · rw [if_pos k6] at hd
    unfold checkS at hd; split at hd
    case isFalse => cases hd
    cases hd
    exact ⟨by omega, by omega, by omega, by omega, by omega, fun _ _ _ _ => rfl⟩
  rw [if_neg k6] at hd
  by_cases k7 : e.kind = 7
  · rw [if_pos k7] at hd
    unfold commitS at hd; split at hd
    · cases hd
      exact ⟨by omega, by omega, by omega, by omega, by omega, fun _ _ _ _ => rfl⟩
    split at hd
    · cases hd
      exact ⟨by omega, by omega, by omega, by omega, by omega, fun _ _ _ _ => rfl⟩
    cases hd
  rw [if_neg k7] at hd
  by_cases k8 : e.kind = 8
  · rw [if_pos k8] at hd
    unfold storeS at hd; split at hd
    case isFalse => cases hd
    rename_i hc
    cases hd
    exact ⟨by omega, by omega, by omega, by omega, fun _ => ⟨by omega, by rw [hthe]; exact (ht.own _ hc.2.2).2⟩, fun _ _ _ _ => rfl⟩
  rw [if_neg k8] at hd
  by_cases k9 : e.kind = 9
  · rw [if_pos k9] at hd
    unfold freedS at hd; split at hd
    case isFalse => cases hd
    rename_i hc
    cases hd
    obtain ⟨h1, h2⟩ := hatS (by omega) (by omega)
    have hbit : t.owned.testBit e.at_.toNat = true := by
      have : e.at_.toNat = leastb t.owned := by omega
      rw [this]; exact leastb_some (by omega)
    refine ⟨by omega, fun _ => ⟨by omega, by rw [hthe]; exact (ht.own _ hbit).2, fun i => ?_⟩, by omega, by omega, by omega, by omega⟩
    show ((s.sts.set e.at_.toNat (-1, t.wv)).getD i (-1, 0)).1 = _
    by_cases hi : e.at_.toNat = i
    · subst hi; rw [getD_set_eq _ _ _ _ h2, if_pos rfl]
    · rw [getD_set_ne _ _ _ _ _ hi, if_neg (Ne.symm hi)]; rfl
  rw [if_neg k9] at hd
  by_cases k10 : e.kind = 10
  · rw [if_pos k10] at hd
    unfold abortS at hd; split at hd
    case isFalse => cases hd
    cases hd
    exact ⟨by omega, by omega, by omega, by omega, by omega, fun _ _ _ _ => rfl⟩
  rw [if_neg k10] at hd
  by_cases k11 : e.kind = 11
  · rw [if_pos k11] at hd
    unfold undoS at hd; split at hd
    case isFalse => cases hd
    rename_i hc
    cases hd
    obtain ⟨h1, h2⟩ := hatS (by omega) (by omega)
    have hbit : t.owned.testBit e.at_.toNat = true := by
      have : e.at_.toNat = leastb t.owned := by omega
      rw [this]; exact leastb_some (by omega)
    refine ⟨by omega, fun _ => ⟨by omega, by rw [hthe]; exact (ht.own _ hbit).2, fun i => ?_⟩, by omega, by omega, by omega, by omega⟩
    show ((s.sts.set e.at_.toNat (-1, s.ver e.at_)).getD i (-1, 0)).1 = _
    by_cases hi : e.at_.toNat = i
    · subst hi; rw [getD_set_eq _ _ _ _ h2, if_pos rfl]
    · rw [getD_set_ne _ _ _ _ _ hi, if_neg (Ne.symm hi)]; rfl
  rw [if_neg k11] at hd
  by_cases k12 : e.kind = 12
  · rw [if_pos k12] at hd
    unfold waitS at hd; split at hd
    case isFalse => cases hd
    cases hd
    exact ⟨by omega, by omega, by omega, by omega, by omega, fun _ _ _ _ => rfl⟩
  rw [if_neg k12] at hd
  unfold wakeS at hd; split at hd
  case isFalse => cases hd
  cases hd
  exact ⟨by omega, by omega, by omega, by omega, by omega, fun _ _ _ _ => rfl⟩

/-- The versions as the law keeps them: of each thread its last Bump, of each stripe what was freed there. -/
structure VerL (s : Sh) (wv ver : Nat → Int) : Prop where
  w : ∀ i, i < s.ths.length → (s.ths.getD i Th.zero).at_ = 4 ∨ (s.ths.getD i Th.zero).at_ = 5 ∨ (s.ths.getD i Th.zero).at_ = 6 → wv i = (s.ths.getD i Th.zero).wv
  v : ∀ i, i < s.sts.length → ver i ≤ stV s i
  c : ∀ i, ver i ≤ s.clock
  o : ∀ i, i < s.ths.length → (s.ths.getD i Th.zero).at_ = 4 ∨ (s.ths.getD i Th.zero).at_ = 5 ∨ (s.ths.getD i Th.zero).at_ = 6 → ∀ b, (s.ths.getD i Th.zero).owned.testBit b = true → ver b < wv i
def thR (s : Sh) (i : Nat) : Int := (s.ths.getD i Th.zero).rv

/-- Nothing but the thread's record turned, and it is in none of the three states, or was there ahead. -/
theorem VerL.keep {s s' : Sh} {wv ver : Nat → Int} (h : VerL s wv ver) {th : Nat} {t' : Th} (hths : s'.ths = s.ths.set th t') (hsts : s'.sts = s.sts) (hclk : s.clock ≤ s'.clock)
    (hlt : th < s.ths.length) (ht : (t'.at_ = 4 ∨ t'.at_ = 5 ∨ t'.at_ = 6) → ((s.ths.getD th Th.zero).at_ = 4 ∨ (s.ths.getD th Th.zero).at_ = 5 ∨ (s.ths.getD th Th.zero).at_ = 6) ∧ t'.wv = (s.ths.getD th Th.zero).wv ∧ t'.owned = (s.ths.getD th Th.zero).owned) : VerL s' wv ver := by
  have hlen : s'.ths.length = s.ths.length := by rw [hths, List.length_set]
  refine ⟨fun i hi hx => ?_, fun i hi => ?_, fun i => ?_, fun i hi hx b hb => ?_⟩
  · rw [hlen] at hi
    rw [hths] at hx ⊢
    by_cases he : th = i
    · subst he
      rw [getD_set_eq _ _ _ _ hlt] at hx ⊢
      obtain ⟨a, b, c⟩ := ht hx
      rw [h.w th hi a, b]
    · rw [getD_set_ne _ _ _ _ _ he] at hx ⊢; exact h.w i hi hx
  · unfold stV; rw [hsts] at hi ⊢; exact h.v i hi
  · have := h.c i; omega
  · rw [hlen] at hi
    rw [hths] at hx hb
    by_cases he : th = i
    · subst he
      rw [getD_set_eq _ _ _ _ hlt] at hx hb
      obtain ⟨a, b', c⟩ := ht hx
      rw [c] at hb
      exact h.o th hi a b hb
    · rw [getD_set_ne _ _ _ _ _ he] at hx hb; exact h.o i hi hx b hb
def upd (f : Nat → Int) (i : Nat) (x : Int) : Nat → Int := fun j => if j = i then x else f j

theorem ver_step {s s' : Sh} {e : Ev} {wv ver : Nat → Int} (hw : Wf s) (hj : VerL s wv ver) (h : stepS s e = some s') :
    e.th.toNat < 6 ∧ (e.kind ≠ 3 → e.kind ≠ 8 → e.at_.toNat < 32) ∧
    (e.kind = 1 → s.clock ≤ e.v ∧ s'.clock = e.v ∧ (∀ i, thR s' i = if i = e.th.toNat then e.v else thR s i) ∧ VerL s' wv ver) ∧
    (e.kind = 5 → s.clock < e.v ∧ s'.clock = e.v ∧ (∀ i, thR s' i = thR s i) ∧ VerL s' (upd wv e.th.toNat e.v) ver) ∧
    (e.kind = 7 → e.v ≠ 0 → e.v = wv e.th.toNat) ∧
    (e.kind = 2 → e.v ≤ thR s e.th.toNat ∧ ver e.at_.toNat ≤ e.v) ∧
    (e.kind = 9 → ver e.at_.toNat < wv e.th.toNat ∧ s'.clock = s.clock ∧ (∀ i, thR s' i = thR s i) ∧ VerL s' wv (upd ver e.at_.toNat (wv e.th.toNat))) ∧
    (e.kind ≠ 1 → e.kind ≠ 5 → e.kind ≠ 9 → s'.clock = s.clock ∧ (∀ i, thR s' i = thR s i) ∧ VerL s' wv ver) := by
  obtain ⟨th, hthe, htn, hlt, hm, hk, hat, hatS, hmod, hv, hd⟩ := stepS_inv hw h
  have ht := hw.th th hlt
  have hsz := hw.size
  have hsn : s.n = s.sts.length := rfl
  have hr6 : e.th.toNat < 6 := by omega
  have hr32 : e.kind ≠ 3 → e.kind ≠ 8 → e.at_.toNat < 32 := by intro _ _; omega
  rw [htn]
  have hrv : ∀ (s' : Sh) (t' : Th), s'.ths = s.ths.set th t' → t'.rv = (s.ths.getD th Th.zero).rv → ∀ i, thR s' i = thR s i := by
    intro s' t' h1 h2 i
    unfold thR
    rw [h1]
    by_cases he : th = i
    · subst he; rw [getD_set_eq _ _ _ _ hlt]; exact h2
    · rw [getD_set_ne _ _ _ _ _ he]
  have hst : ∀ (q : Sh) (t' : Th), q.ths = s.ths → (q.setTh e.th t').ths = s.ths.set th t' := by intro q t' h1; simp only [Sh.setTh, h1, htn]
  have fin : ∀ (t' : Th), s' = s.setTh e.th t' → t'.rv = (s.ths.getD th Th.zero).rv → ((t'.at_ = 4 ∨ t'.at_ = 5 ∨ t'.at_ = 6) → ((s.ths.getD th Th.zero).at_ = 4 ∨ (s.ths.getD th Th.zero).at_ = 5 ∨ (s.ths.getD th Th.zero).at_ = 6) ∧ t'.wv = (s.ths.getD th Th.zero).wv ∧ t'.owned = (s.ths.getD th Th.zero).owned) →
      s'.clock = s.clock ∧ (∀ i, thR s' i = thR s i) ∧ VerL s' wv ver := by
    intro t' h1 h2 h3
    subst h1
    have h4 : (s.setTh e.th t').ths = s.ths.set th t' := by simp [Sh.setTh, htn]
    exact ⟨rfl, hrv _ t' h4 h2, hj.keep h4 rfl (by simp [Sh.setTh]) hlt h3⟩
  refine ⟨by omega, hr32, ?_⟩
  unfold doesS at hd
  by_cases k1 : e.kind = 1
  · rw [if_pos k1] at hd
    unfold beginS at hd; split at hd
    case isFalse => cases hd
    rename_i hc
    cases hd
    refine ⟨fun _ => ⟨hc.2.2, rfl, fun i => ?_, ?_⟩, by omega, by omega, by omega, by omega, by omega⟩
    · simp only [thR, Sh.setTh, htn]
      by_cases he : th = i
      · subst he; rw [getD_set_eq _ _ _ _ hlt, if_pos rfl]
      · rw [getD_set_ne _ _ _ _ _ he, if_neg (Ne.symm he)]
    · refine hj.keep (th := th) (hst _ _ rfl) rfl ?_ hlt (by simp)
      simp only [Sh.setTh]; omega
  rw [if_neg k1] at hd
  by_cases k2 : e.kind = 2
  · rw [if_pos k2] at hd
    unfold lookS at hd; split at hd
    case isFalse => cases hd
    rename_i hc
    cases hd
    obtain ⟨h1, h2⟩ := hatS (by omega) (by omega)
    have hva := hj.v _ h2
    have hve : stV s e.at_.toNat = s.ver e.at_ := rfl
    refine ⟨by omega, by omega, by omega, fun _ => ⟨hc.2.2.2, by omega⟩, by omega, fun _ _ _ => ⟨rfl, ?_, ?_⟩⟩
    · exact hrv _ _ (hst _ _ rfl) rfl
    · have hk1 : VerL (s.setTh e.th { s.ths.getD th Th.zero with at_ := 2, stripe := e.at_, v := e.v }) wv ver := hj.keep (th := th) (hst _ _ rfl) rfl (by simp [Sh.setTh]) hlt (by simp)
      refine ⟨hk1.w, fun i hi => ?_, hk1.c, hk1.o⟩
      show ver i ≤ ((s.sts.set e.at_.toNat (-1, e.v)).getD i (-1, 0)).2
      by_cases hi' : e.at_.toNat = i
      · subst hi'; rw [getD_set_eq _ _ _ _ h2]; simp only; omega
      · rw [getD_set_ne _ _ _ _ _ hi']; exact hj.v i (by simpa [Sh.setTh, Sh.setSt] using hi)
  rw [if_neg k2] at hd
  by_cases k3 : e.kind = 3
  · rw [if_pos k3] at hd
    unfold loadS at hd; split at hd
    case isFalse => cases hd
    cases hd
    exact ⟨by omega, by omega, by omega, by omega, by omega, fun _ _ _ => fin _ rfl rfl (by simp)⟩
  rw [if_neg k3] at hd
  by_cases k4 : e.kind = 4
  · rw [if_pos k4] at hd
    unfold lockS at hd; split at hd
    case isFalse => cases hd
    rename_i hc
    cases hd
    obtain ⟨h1, h2⟩ := hatS (by omega) (by omega)
    refine ⟨by omega, by omega, by omega, by omega, by omega, fun _ _ _ => ⟨rfl, ?_, ?_⟩⟩
    · exact hrv _ _ (hst _ _ rfl) rfl
    · have hk1 : VerL (s.setTh e.th { s.ths.getD th Th.zero with at_ := 3, locked := e.at_, owned := setb (s.ths.getD th Th.zero).owned e.at_.toNat }) wv ver := hj.keep (th := th) (hst _ _ rfl) rfl (by simp [Sh.setTh]) hlt (by simp)
      refine ⟨hk1.w, fun i hi => ?_, hk1.c, hk1.o⟩
      show ver i ≤ ((s.sts.set e.at_.toNat (e.th, s.ver e.at_)).getD i (-1, 0)).2
      by_cases hi' : e.at_.toNat = i
      · subst hi'; rw [getD_set_eq _ _ _ _ h2]; exact hj.v _ h2
      · rw [getD_set_ne _ _ _ _ _ hi']; exact hj.v i (by simpa [Sh.setTh, Sh.setSt] using hi)
  rw [if_neg k4] at hd
  by_cases k5 : e.kind = 5
  · rw [if_pos k5] at hd
    unfold bumpS at hd; split at hd
    case isFalse => cases hd
    rename_i hc
    cases hd
    refine ⟨by omega, fun _ => ⟨hc.2, rfl, ?_, ?_⟩, by omega, by omega, by omega, by omega⟩
    · exact hrv _ _ (hst _ _ rfl) rfl
    · refine ⟨fun i hi hx => ?_, fun i hi => hj.v i hi, fun i => ?_, fun i hi hx b hb => ?_⟩
      · simp only [Sh.setTh, htn, List.length_set] at hi hx ⊢
        by_cases he : th = i
        · subst he; rw [getD_set_eq _ _ _ _ hlt]; simp [upd]
        · rw [getD_set_ne _ _ _ _ _ he] at hx ⊢
          simp only [upd, if_neg (Ne.symm he)]
          exact hj.w i hi hx
      · have := hj.c i; simp only [Sh.setTh]; omega
      · simp only [Sh.setTh, htn, List.length_set] at hi hx hb
        by_cases he : th = i
        · subst he
          have := hj.c b
          simp only [upd, if_true]; omega
        · rw [getD_set_ne _ _ _ _ _ he] at hx hb
          simp only [upd, if_neg (Ne.symm he)]
          exact hj.o i hi hx b hb
  rw [if_neg k5] at hd
  by_cases k6 : e.kind = 6
  · rw [if_pos k6] at hd
    unfold checkS at hd; split at hd
    case isFalse => cases hd
    rename_i hc
    cases hd
    exact ⟨by omega, by omega, by omega, by omega, by omega, fun _ _ _ => fin _ rfl rfl (fun _ => ⟨Or.inl hc.1, rfl, rfl⟩)⟩
  rw [if_neg k6] at hd
  by_cases k7 : e.kind = 7
  · rw [if_pos k7] at hd
    unfold commitS at hd; split at hd
    · rename_i hc
      cases hd
      exact ⟨by omega, by omega, fun _ h0 => absurd hc.1 h0, by omega, by omega, fun _ _ _ => fin _ rfl rfl (by simp)⟩
    split at hd
    · rename_i hc
      cases hd
      exact ⟨by omega, by omega, fun _ _ => by rw [hj.w th hlt (Or.inl hc.2.1)]; exact hc.2.2.2, by omega, by omega, fun _ _ _ => fin _ rfl rfl (fun _ => ⟨Or.inl hc.2.1, rfl, rfl⟩)⟩
    cases hd
  rw [if_neg k7] at hd
  by_cases k8 : e.kind = 8
  · rw [if_pos k8] at hd
    unfold storeS at hd; split at hd
    case isFalse => cases hd
    rename_i hc
    cases hd
    exact ⟨by omega, by omega, by omega, by omega, by omega, fun _ _ _ => fin _ rfl rfl (fun h => ⟨h, rfl, rfl⟩)⟩
  rw [if_neg k8] at hd
  by_cases k9 : e.kind = 9
  · rw [if_pos k9] at hd
    unfold freedS at hd; split at hd
    case isFalse => cases hd
    rename_i hc
    obtain ⟨h1, h2⟩ := hatS (by omega) (by omega)
    have hbit : (s.ths.getD th Th.zero).owned.testBit e.at_.toNat = true := by
      have : e.at_.toNat = leastb (s.ths.getD th Th.zero).owned := by omega
      rw [this]; exact leastb_some (by omega)
    have hown := ht.own _ hbit
    have h56 : (s.ths.getD th Th.zero).at_ = 4 ∨ (s.ths.getD th Th.zero).at_ = 5 ∨ (s.ths.getD th Th.zero).at_ = 6 := by omega
    have hwv := hj.w th hlt h56
    have hlo := hj.o th hlt h56 _ hbit
    have hwc := ht.wvb
    have key : ∀ t', t'.rv = (s.ths.getD th Th.zero).rv → t'.wv = (s.ths.getD th Th.zero).wv → t'.owned = clrb (s.ths.getD th Th.zero).owned e.at_.toNat → s' = (s.setSt e.at_ (-1, (s.ths.getD th Th.zero).wv)).setTh e.th t' →
        s'.clock = s.clock ∧ (∀ i, thR s' i = thR s i) ∧ VerL s' wv (upd ver e.at_.toNat (wv th)) := by
      intro t' q1 q2 q4 q3
      subst q3
      refine ⟨rfl, hrv _ t' (by simp [Sh.setTh, Sh.setSt, htn]) q1, ?_⟩
      refine ⟨fun i hi hx => ?_, fun i hi => ?_, fun i => ?_, fun i hi hx b hb => ?_⟩
      · simp only [Sh.setTh, Sh.setSt, htn, List.length_set] at hi hx ⊢
        by_cases he : th = i
        · subst he; rw [getD_set_eq _ _ _ _ hlt]; rw [q2]; exact hwv
        · rw [getD_set_ne _ _ _ _ _ he] at hx ⊢; exact hj.w i hi hx
      · show upd ver e.at_.toNat (wv th) i ≤ ((s.sts.set e.at_.toNat (-1, (s.ths.getD th Th.zero).wv)).getD i (-1, 0)).2
        by_cases hi' : e.at_.toNat = i
        · subst hi'; rw [getD_set_eq _ _ _ _ h2]; simp only [upd, if_true]; omega
        · rw [getD_set_ne _ _ _ _ _ hi']; simp only [upd, if_neg (Ne.symm hi')]; exact hj.v i (by simpa [Sh.setTh, Sh.setSt] using hi)
      · simp only [Sh.setTh, Sh.setSt, upd]; split
        · omega
        · exact hj.c i
      · simp only [Sh.setTh, Sh.setSt, htn, List.length_set] at hi hx hb
        by_cases he : th = i
        · subst he
          rw [getD_set_eq _ _ _ _ hlt] at hb
          rw [q4, testBit_clrb, Bool.and_eq_true] at hb
          have hne : b ≠ e.at_.toNat := by have := hb.2; simp at this; exact fun h' => this h'.symm
          simp only [upd, if_neg hne]
          exact hj.o th hlt h56 b hb.1
        · rw [getD_set_ne _ _ _ _ _ he] at hx hb
          have hob := (hw.th i hi).own b hb
          have hne : b ≠ e.at_.toNat := by
            intro hbe; subst hbe; omega
          simp only [upd, if_neg hne]
          exact hj.o i hi hx b hb
    refine ⟨by omega, by omega, by omega, by omega, fun _ => ⟨hlo, ?_⟩, by omega⟩
    cases hd
    by_cases hz : clrb (s.ths.getD th Th.zero).owned e.at_.toNat = 0
    · exact key { s.ths.getD th Th.zero with at_ := 0, owned := clrb (s.ths.getD th Th.zero).owned e.at_.toNat, commits := (s.ths.getD th Th.zero).commits + 1 } rfl rfl rfl (by rw [if_pos hz])
    · exact key { s.ths.getD th Th.zero with at_ := 6, owned := clrb (s.ths.getD th Th.zero).owned e.at_.toNat } rfl rfl rfl (by rw [if_neg hz])
  rw [if_neg k9] at hd
  by_cases k10 : e.kind = 10
  · rw [if_pos k10] at hd
    unfold abortS at hd; split at hd
    case isFalse => cases hd
    cases hd
    exact ⟨by omega, by omega, by omega, by omega, by omega, fun _ _ _ => fin _ rfl rfl (by intro hx; simp only at hx; split at hx <;> omega)⟩
  rw [if_neg k10] at hd
  by_cases k11 : e.kind = 11
  · rw [if_pos k11] at hd
    unfold undoS at hd; split at hd
    case isFalse => cases hd
    rename_i hc
    cases hd
    obtain ⟨h1, h2⟩ := hatS (by omega) (by omega)
    refine ⟨by omega, by omega, by omega, by omega, by omega, fun _ _ _ => ⟨rfl, ?_, ?_⟩⟩
    · exact hrv _ _ (hst _ _ rfl) rfl
    · have hk1 := hj.keep (s' := s.setTh e.th { s.ths.getD th Th.zero with at_ := if clrb (s.ths.getD th Th.zero).owned e.at_.toNat = 0 then (if (s.ths.getD th Th.zero).full then 9 else 0) else 7, owned := clrb (s.ths.getD th Th.zero).owned e.at_.toNat }) (th := th) (hst _ _ rfl) rfl (by simp [Sh.setTh]) hlt (by intro hx; simp only at hx; split at hx; (split at hx <;> omega); omega)
      refine ⟨hk1.w, fun i hi => ?_, hk1.c, hk1.o⟩
      show ver i ≤ ((s.sts.set e.at_.toNat (-1, s.ver e.at_)).getD i (-1, 0)).2
      by_cases hi' : e.at_.toNat = i
      · subst hi'; rw [getD_set_eq _ _ _ _ h2]; exact hj.v _ h2
      · rw [getD_set_ne _ _ _ _ _ hi']; exact hj.v i (by simpa [Sh.setTh, Sh.setSt] using hi)
  rw [if_neg k11] at hd
  by_cases k12 : e.kind = 12
  · rw [if_pos k12] at hd
    unfold waitS at hd; split at hd
    case isFalse => cases hd
    cases hd
    exact ⟨by omega, by omega, by omega, by omega, by omega, fun _ _ _ => fin _ rfl rfl (by simp)⟩
  rw [if_neg k12] at hd
  unfold wakeS at hd; split at hd
  case isFalse => cases hd
  cases hd
  exact ⟨by omega, by omega, by omega, by omega, by omega, fun _ _ _ => fin _ rfl rfl (by simp)⟩
end Go.Proofs.Ytcdgfnocjnampaa
