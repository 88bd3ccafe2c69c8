/-
  Joined texts: ShP HiD HiP ShK1 HiQ HiR.
-/
import Derived.Test.YtnmbacleaijhmaaDoorShJ
/-
  The checker's machine: what each event says, for the laws on owners and versions. Nothing of the program.
-/
namespace Go.Proofs.YtnmbacleaijhmaaDoor
set_option linter.unusedVariables false

def stO (s : Sh) (i : Nat) : Int := (s.sts.getD i (-1, 0)).1
def stV (s : Sh) (i : Nat) : Int := (s.sts.getD i (-1, 0)).2
theorem stepS_inv {s s' : Sh} {e : Ev} (hw : Wf s) (h : stepS s e = some s') : ∃ th : Nat, e.th = (th : Int) ∧ e.th.toNat = th ∧ th < s.ths.length ∧ mayE e s.ths.length s.vars s.n = true ∧ (1 ≤ e.kind ∧ e.kind ≤ 13) ∧
    (0 ≤ e.at_ ∧ e.at_ < s.vars ∧ s.vars ≤ 32) ∧ (e.kind ≠ 3 → e.kind ≠ 8 → e.at_ < s.n ∧ e.at_.toNat < s.sts.length) ∧ (0 ≤ e.at_ % s.n ∧ e.at_ % s.n < s.n) ∧ (0 ≤ e.v ∧ e.v ≤ 1099511627776) ∧ doesS s (s.ths.getD th Th.zero) e = some s' := by
  unfold stepS at h
  split at h
  case isFalse => cases h
  rename_i hm
  obtain ⟨hk, hth, htx, hv, hat, hS⟩ := mayE_of hm
  obtain ⟨th, hthe⟩ := Int.eq_ofNat_of_zero_le hth.1
  have hlt : th < s.ths.length := by omega
  have htn : e.th.toNat = th := by omega
  have hT : s.th e.th = s.ths.getD th Th.zero := by unfold Sh.th; rw [htn]
  rw [hT] at h
  have hpv := places_V (e := e) hS.1 hS.2.1
  refine ⟨th, hthe, htn, hlt, hm, hk, ⟨hat.1, by omega, by omega⟩, fun h3 h8 => ?_, mod_in hS.1, hv, h⟩
  have hp := places_S (e := e) (V := s.vars) (S := s.n) h3 h8 hS.1
  have : s.n = s.sts.length := rfl
  omega

/-- What an event says of the stripes' owners. -/
theorem owner_step {s s' : Sh} {e : Ev} (hw : Wf s) (h : stepS s e = some s') :
    (e.kind = 4 → (e.at_.toNat < 32 ∧ stO s e.at_.toNat = -1 ∧ ∀ i, stO s' i = if i = e.at_.toNat then e.th else stO s i)) ∧
    (e.kind = 9 ∨ e.kind = 11 → (e.at_.toNat < 32 ∧ stO s e.at_.toNat = e.th ∧ ∀ i, stO s' i = if i = e.at_.toNat then -1 else stO s i)) ∧
    (e.kind = 2 → (e.at_.toNat < 32 ∧ stO s e.at_.toNat = -1)) ∧
    (e.kind = 3 → ((e.at_ % s.n).toNat < 32 ∧ stO s (e.at_ % s.n).toNat = -1)) ∧
    (e.kind = 8 → ((e.at_ % s.n).toNat < 32 ∧ stO s (e.at_ % s.n).toNat = e.th)) ∧
    (e.kind ≠ 4 → e.kind ≠ 9 → e.kind ≠ 11 → ∀ i, stO s' i = stO s i) := by
  obtain ⟨th, hthe, htn, hlt, hm, hk, hat, hatS, hmod, hv, hd⟩ := stepS_inv hw h
  have ht := hw.th th hlt
  generalize s.ths.getD th Th.zero = t at hd ht
  have hsz := hw.size
  have hsn : s.n = s.sts.length := rfl
  have same : ∀ (t' : Th) (i : Nat), stO (s.setTh e.th t') i = stO s i := fun _ _ => rfl
  unfold doesS at hd
  by_cases k1 : e.kind = 1
  · rw [if_pos k1] at hd
    unfold beginS at hd; split at hd
    case isFalse => cases hd
    cases hd
    exact ⟨by omega, by omega, by omega, by omega, by omega, fun _ _ _ _ => rfl⟩
  rw [if_neg k1] at hd
  by_cases k2 : e.kind = 2
  · rw [if_pos k2] at hd
    unfold lookS at hd; split at hd
    case isFalse => cases hd
    rename_i hc
    cases hd
    obtain ⟨h1, h2⟩ := hatS (by omega) (by omega)
    refine ⟨by omega, by omega, fun _ => ⟨by omega, hc.2.1⟩, by omega, by omega, fun _ _ _ i => ?_⟩
    show ((s.sts.set e.at_.toNat (-1, e.v)).getD i (-1, 0)).1 = _
    by_cases hi : e.at_.toNat = i
    · subst hi; rw [getD_set_eq _ _ _ _ h2]; exact hc.2.1.symm
    · rw [getD_set_ne _ _ _ _ _ hi]; rfl
  rw [if_neg k2] at hd
  by_cases k3 : e.kind = 3
  · rw [if_pos k3] at hd
    unfold loadS at hd; split at hd
    case isFalse => cases hd
    rename_i hc
    cases hd
    exact ⟨by omega, by omega, by omega, fun _ => ⟨by omega, by have := hc.2.2.1; rw [← hc.2.1] at this; exact this⟩, by omega, fun _ _ _ _ => rfl⟩
  rw [if_neg k3] at hd
  by_cases k4 : e.kind = 4
  · rw [if_pos k4] at hd
    unfold lockS at hd; split at hd
    case isFalse => cases hd
    rename_i hc
    cases hd
    obtain ⟨h1, h2⟩ := hatS (by omega) (by omega)
    refine ⟨fun _ => ⟨by omega, hc.2.2, fun i => ?_⟩, by omega, by omega, by omega, by omega, by omega⟩
    show ((s.sts.set e.at_.toNat (e.th, s.ver e.at_)).getD i (-1, 0)).1 = _
    by_cases hi : e.at_.toNat = i
    · subst hi; rw [getD_set_eq _ _ _ _ h2, if_pos rfl]
    · rw [getD_set_ne _ _ _ _ _ hi, if_neg (Ne.symm hi)]; rfl
  rw [if_neg k4] at hd
  by_cases k5 : e.kind = 5
  · rw [if_pos k5] at hd
    unfold bumpS at hd; split at hd
    case isFalse => cases hd
    cases hd
    exact ⟨by omega, by omega, by omega, by omega, by omega, fun _ _ _ _ => rfl⟩
  rw [if_neg k5] at hd
  by_cases k6 : e.kind = 6
  · rw [if_pos k6] at hd
    unfold checkS at hd; split at hd
    case isFalse => cases hd
    cases hd
    exact ⟨by omega, by omega, by omega, by omega, by omega, fun _ _ _ _ => rfl⟩
  rw [if_neg k6] at hd
  by_cases k7 : e.kind = 7
  · rw [if_pos k7] at hd
    unfold commitS at hd; split at hd
    · cases hd
      exact ⟨by omega, by omega, by omega, by omega, by omega, fun _ _ _ _ => rfl⟩
    split at hd
    · cases hd
      exact ⟨by omega, by omega, by omega, by omega, by omega, fun _ _ _ _ => rfl⟩
    cases hd
  rw [if_neg k7] at hd
  by_cases k8 : e.kind = 8
  · rw [if_pos k8] at hd
    unfold storeS at hd; split at hd
    case isFalse => cases hd
    rename_i hc
    cases hd
    exact ⟨by omega, by omega, by omega, by omega, fun _ => ⟨by omega, by rw [hthe]; exact (ht.own _ hc.2.2).2⟩, fun _ _ _ _ => rfl⟩
  rw [if_neg k8] at hd
  by_cases k9 : e.kind = 9
  · rw [if_pos k9] at hd
    unfold freedS at hd; split at hd
    case isFalse => cases hd
    rename_i hc
    cases hd
    obtain ⟨h1, h2⟩ := hatS (by omega) (by omega)
    have hbit : t.owned.testBit e.at_.toNat = true := by
      have : e.at_.toNat = leastb t.owned := by omega
      rw [this]; exact leastb_some (by omega)
    refine ⟨by omega, fun _ => ⟨by omega, by rw [hthe]; exact (ht.own _ hbit).2, fun i => ?_⟩, by omega, by omega, by omega, by omega⟩
    show ((s.sts.set e.at_.toNat (-1, t.wv)).getD i (-1, 0)).1 = _
    by_cases hi : e.at_.toNat = i
    · subst hi; rw [getD_set_eq _ _ _ _ h2, if_pos rfl]
    · rw [getD_set_ne _ _ _ _ _ hi, if_neg (Ne.symm hi)]; rfl
  rw [if_neg k9] at hd
  by_cases k10 : e.kind = 10
  · rw [if_pos k10] at hd
    unfold abortS at hd; split at hd
    case isFalse => cases hd
    cases hd
    exact ⟨by omega, by omega, by omega, by omega, by omega, fun _ _ _ _ => rfl⟩
  rw [if_neg k10] at hd
  by_cases k11 : e.kind = 11
  · rw [if_pos k11] at hd
    unfold undoS at hd; split at hd
    case isFalse => cases hd
    rename_i hc
    cases hd
    obtain ⟨h1, h2⟩ := hatS (by omega) (by omega)
    have hbit : t.owned.testBit e.at_.toNat = true := by
      have : e.at_.toNat = leastb t.owned := by omega
      rw [this]; exact leastb_some (by omega)
    refine ⟨by omega, fun _ => ⟨by omega, by rw [hthe]; exact (ht.own _ hbit).2, fun i => ?_⟩, by omega, by omega, by omega, by omega⟩
    show ((s.sts.set e.at_.toNat (-1, s.ver e.at_)).getD i (-1, 0)).1 = _
    by_cases hi : e.at_.toNat = i
    · subst hi; rw [getD_set_eq _ _ _ _ h2, if_pos rfl]
    · rw [getD_set_ne _ _ _ _ _ hi, if_neg (Ne.symm hi)]; rfl
  rw [if_neg k11] at hd
  by_cases k12 : e.kind = 12
  · rw [if_pos k12] at hd
    unfold waitS at hd; split at hd
    case isFalse => cases hd
    cases hd
    exact ⟨by omega, by omega, by omega, by omega, by omega, fun _ _ _ _ => rfl⟩
  rw [if_neg k12] at hd
  unfold wakeS at hd; split at hd
  case isFalse => cases hd
  cases hd
  exact ⟨by omega, by omega, by omega, by omega, by omega, fun _ _ _ _ => rfl⟩

/-- The versions as the law keeps them: of each thread its last Bump, of each stripe what was freed there. -/
structure VerL (s : Sh) (wv ver : Nat → Int) : Prop where
  w : ∀ i, i < s.ths.length → (s.ths.getD i Th.zero).at_ = 4 ∨ (s.ths.getD i Th.zero).at_ = 5 ∨ (s.ths.getD i Th.zero).at_ = 6 → wv i = (s.ths.getD i Th.zero).wv
  v : ∀ i, i < s.sts.length → ver i ≤ stV s i
  c : ∀ i, ver i ≤ s.clock
  o : ∀ i, i < s.ths.length → (s.ths.getD i Th.zero).at_ = 4 ∨ (s.ths.getD i Th.zero).at_ = 5 ∨ (s.ths.getD i Th.zero).at_ = 6 → ∀ b, (s.ths.getD i Th.zero).owned.testBit b = true → ver b < wv i
def thR (s : Sh) (i : Nat) : Int := (s.ths.getD i Th.zero).rv

/-- Nothing but the thread's record turned, and it is in none of the three states, or was there ahead. -/
theorem VerL.keep {s s' : Sh} {wv ver : Nat → Int} (h : VerL s wv ver) {th : Nat} {t' : Th} (hths : s'.ths = s.ths.set th t') (hsts : s'.sts = s.sts) (hclk : s.clock ≤ s'.clock)
    (hlt : th < s.ths.length) (ht : (t'.at_ = 4 ∨ t'.at_ = 5 ∨ t'.at_ = 6) → ((s.ths.getD th Th.zero).at_ = 4 ∨ (s.ths.getD th Th.zero).at_ = 5 ∨ (s.ths.getD th Th.zero).at_ = 6) ∧ t'.wv = (s.ths.getD th Th.zero).wv ∧ t'.owned = (s.ths.getD th Th.zero).owned) : VerL s' wv ver := by
  have hlen : s'.ths.length = s.ths.length := by rw [hths, List.length_set]
  refine ⟨fun i hi hx => ?_, fun i hi => ?_, fun i => ?_, fun i hi hx b hb => ?_⟩
  · rw [hlen] at hi
    rw [hths] at hx ⊢
    by_cases he : th = i
    · subst he
      rw [getD_set_eq _ _ _ _ hlt] at hx ⊢
      obtain ⟨a, b, c⟩ := ht hx
      rw [h.w th hi a, b]
    · rw [getD_set_ne _ _ _ _ _ he] at hx ⊢; exact h.w i hi hx
  · unfold stV; rw [hsts] at hi ⊢; exact h.v i hi
  · have := h.c i; omega
  · rw [hlen] at hi
    rw [hths] at hx hb
    by_cases he : th = i
    · subst he
      rw [getD_set_eq _ _ _ _ hlt] at hx hb
      obtain ⟨a, b', c⟩ := ht hx
      rw [c] at hb
      exact h.o th hi a b hb
    · rw [getD_set_ne _ _ _ _ _ he] at hx hb; exact h.o i hi hx b hb
def upd (f : Nat → Int) (i : Nat) (x : Int) : Nat → Int := fun j => if j = i then x else f j

theorem ver_step {s s' : Sh} {e : Ev} {wv ver : Nat → Int} (hw : Wf s) (hj : VerL s wv ver) (h : stepS s e = some s') :
    e.th.toNat < 6 ∧ (e.kind ≠ 3 → e.kind ≠ 8 → e.at_.toNat < 32) ∧
    (e.kind = 1 → s.clock ≤ e.v ∧ s'.clock = e.v ∧ (∀ i, thR s' i = if i = e.th.toNat then e.v else thR s i) ∧ VerL s' wv ver) ∧
    (e.kind = 5 → s.clock < e.v ∧ s'.clock = e.v ∧ (∀ i, thR s' i = thR s i) ∧ VerL s' (upd wv e.th.toNat e.v) ver) ∧
    (e.kind = 7 → e.v ≠ 0 → e.v = wv e.th.toNat) ∧
    (e.kind = 2 → e.v ≤ thR s e.th.toNat ∧ ver e.at_.toNat ≤ e.v) ∧
    (e.kind = 9 → ver e.at_.toNat < wv e.th.toNat ∧ s'.clock = s.clock ∧ (∀ i, thR s' i = thR s i) ∧ VerL s' wv (upd ver e.at_.toNat (wv e.th.toNat))) ∧
    (e.kind ≠ 1 → e.kind ≠ 5 → e.kind ≠ 9 → s'.clock = s.clock ∧ (∀ i, thR s' i = thR s i) ∧ VerL s' wv ver) := by
  obtain ⟨th, hthe, htn, hlt, hm, hk, hat, hatS, hmod, hv, hd⟩ := stepS_inv hw h
  have ht := hw.th th hlt
  have hsz := hw.size
  have hsn : s.n = s.sts.length := rfl
  have hr6 : e.th.toNat < 6 := by omega
  have hr32 : e.kind ≠ 3 → e.kind ≠ 8 → e.at_.toNat < 32 := by intro _ _; omega
  rw [htn]
  have hrv : ∀ (s' : Sh) (t' : Th), s'.ths = s.ths.set th t' → t'.rv = (s.ths.getD th Th.zero).rv → ∀ i, thR s' i = thR s i := by
    intro s' t' h1 h2 i
    unfold thR
    rw [h1]
    by_cases he : th = i
    · subst he; rw [getD_set_eq _ _ _ _ hlt]; exact h2
    · rw [getD_set_ne _ _ _ _ _ he]
  have hst : ∀ (q : Sh) (t' : Th), q.ths = s.ths → (q.setTh e.th t').ths = s.ths.set th t' := by intro q t' h1; simp only [Sh.setTh, h1, htn]
  have fin : ∀ (t' : Th), s' = s.setTh e.th t' → t'.rv = (s.ths.getD th Th.zero).rv → ((t'.at_ = 4 ∨ t'.at_ = 5 ∨ t'.at_ = 6) → ((s.ths.getD th Th.zero).at_ = 4 ∨ (s.ths.getD th Th.zero).at_ = 5 ∨ (s.ths.getD th Th.zero).at_ = 6) ∧ t'.wv = (s.ths.getD th Th.zero).wv ∧ t'.owned = (s.ths.getD th Th.zero).owned) →
      s'.clock = s.clock ∧ (∀ i, thR s' i = thR s i) ∧ VerL s' wv ver := by
    intro t' h1 h2 h3
    subst h1
    have h4 : (s.setTh e.th t').ths = s.ths.set th t' := by simp [Sh.setTh, htn]
    exact ⟨rfl, hrv _ t' h4 h2, hj.keep h4 rfl (by simp [Sh.setTh]) hlt h3⟩
  refine ⟨by omega, hr32, ?_⟩
  unfold doesS at hd
  by_cases k1 : e.kind = 1
  · rw [if_pos k1] at hd
    unfold beginS at hd; split at hd
    case isFalse => cases hd
    rename_i hc
    cases hd
    refine ⟨fun _ => ⟨hc.2.2, rfl, fun i => ?_, ?_⟩, by omega, by omega, by omega, by omega, by omega⟩
    · simp only [thR, Sh.setTh, htn]
      by_cases he : th = i
      · subst he; rw [getD_set_eq _ _ _ _ hlt, if_pos rfl]
      · rw [getD_set_ne _ _ _ _ _ he, if_neg (Ne.symm he)]
    · refine hj.keep (th := th) (hst _ _ rfl) rfl ?_ hlt (by simp)
      simp only [Sh.setTh]; omega
  rw [if_neg k1] at hd
  by_cases k2 : e.kind = 2
  · rw [if_pos k2] at hd
    unfold lookS at hd; split at hd
    case isFalse => cases hd
    rename_i hc
    cases hd
    obtain ⟨h1, h2⟩ := hatS (by omega) (by omega)
    have hva := hj.v _ h2
    have hve : stV s e.at_.toNat = s.ver e.at_ := rfl
    refine ⟨by omega, by omega, by omega, fun _ => ⟨hc.2.2.2, by omega⟩, by omega, fun _ _ _ => ⟨rfl, ?_, ?_⟩⟩
    · exact hrv _ _ (hst _ _ rfl) rfl
    · have hk1 : VerL (s.setTh e.th { s.ths.getD th Th.zero with at_ := 2, stripe := e.at_, v := e.v }) wv ver := hj.keep (th := th) (hst _ _ rfl) rfl (by simp [Sh.setTh]) hlt (by simp)
      refine ⟨hk1.w, fun i hi => ?_, hk1.c, hk1.o⟩
      show ver i ≤ ((s.sts.set e.at_.toNat (-1, e.v)).getD i (-1, 0)).2
      by_cases hi' : e.at_.toNat = i
      · subst hi'; rw [getD_set_eq _ _ _ _ h2]; simp only; omega
      · rw [getD_set_ne _ _ _ _ _ hi']; exact hj.v i (by simpa [Sh.setTh, Sh.setSt] using hi)
  rw [if_neg k2] at hd
  by_cases k3 : e.kind = 3
  · rw [if_pos k3] at hd
    unfold loadS at hd; split at hd
    case isFalse => cases hd
    cases hd
    exact ⟨by omega, by omega, by omega, by omega, by omega, fun _ _ _ => fin _ rfl rfl (by simp)⟩
  rw [if_neg k3] at hd
  by_cases k4 : e.kind = 4
  · rw [if_pos k4] at hd
    unfold lockS at hd; split at hd
    case isFalse => cases hd
    rename_i hc
    cases hd
    obtain ⟨h1, h2⟩ := hatS (by omega) (by omega)
    refine ⟨by omega, by omega, by omega, by omega, by omega, fun _ _ _ => ⟨rfl, ?_, ?_⟩⟩
    · exact hrv _ _ (hst _ _ rfl) rfl
    · have hk1 : VerL (s.setTh e.th { s.ths.getD th Th.zero with at_ := 3, locked := e.at_, owned := setb (s.ths.getD th Th.zero).owned e.at_.toNat }) wv ver := hj.keep (th := th) (hst _ _ rfl) rfl (by simp [Sh.setTh]) hlt (by simp)
      refine ⟨hk1.w, fun i hi => ?_, hk1.c, hk1.o⟩
      show ver i ≤ ((s.sts.set e.at_.toNat (e.th, s.ver e.at_)).getD i (-1, 0)).2
      by_cases hi' : e.at_.toNat = i
      · subst hi'; rw [getD_set_eq _ _ _ _ h2]; exact hj.v _ h2
      · rw [getD_set_ne _ _ _ _ _ hi']; exact hj.v i (by simpa [Sh.setTh, Sh.setSt] using hi)
  rw [if_neg k4] at hd
  by_cases k5 : e.kind = 5
  · rw [if_pos k5] at hd
    unfold bumpS at hd; split at hd
    case isFalse => cases hd
    rename_i hc
    cases hd
    refine ⟨by omega, fun _ => ⟨hc.2, rfl, ?_, ?_⟩, by omega, by omega, by omega, by omega⟩
    · exact hrv _ _ (hst _ _ rfl) rfl
    · refine ⟨fun i hi hx => ?_, fun i hi => hj.v i hi, fun i => ?_, fun i hi hx b hb => ?_⟩
      · simp only [Sh.setTh, htn, List.length_set] at hi hx ⊢
        by_cases he : th = i
        · subst he; rw [getD_set_eq _ _ _ _ hlt]; simp [upd]
        · rw [getD_set_ne _ _ _ _ _ he] at hx ⊢
          simp only [upd, if_neg (Ne.symm he)]
          exact hj.w i hi hx
      · have := hj.c i; simp only [Sh.setTh]; omega
      · simp only [Sh.setTh, htn, List.length_set] at hi hx hb
        by_cases he : th = i
        · subst he
          have := hj.c b
          simp only [upd, if_true]; omega
        · rw [getD_set_ne _ _ _ _ _ he] at hx hb
          simp only [upd, if_neg (Ne.symm he)]
          exact hj.o i hi hx b hb
  rw [if_neg k5] at hd
  by_cases k6 : e.kind = 6
  · rw [if_pos k6] at hd
    unfold checkS at hd; split at hd
    case isFalse => cases hd
    rename_i hc
    cases hd
    exact ⟨by omega, by omega, by omega, by omega, by omega, fun _ _ _ => fin _ rfl rfl (fun _ => ⟨Or.inl hc.1, rfl, rfl⟩)⟩
  rw [if_neg k6] at hd
  by_cases k7 : e.kind = 7
  · rw [if_pos k7] at hd
    unfold commitS at hd; split at hd
    · rename_i hc
      cases hd
      exact ⟨by omega, by omega, fun _ h0 => absurd hc.1 h0, by omega, by omega, fun _ _ _ => fin _ rfl rfl (by simp)⟩
    split at hd
    · rename_i hc
      cases hd
      exact ⟨by omega, by omega, fun _ _ => by rw [hj.w th hlt (Or.inl hc.2.1)]; exact hc.2.2.2, by omega, by omega, fun _ _ _ => fin _ rfl rfl (fun _ => ⟨Or.inl hc.2.1, rfl, rfl⟩)⟩
    cases hd
  rw [if_neg k7] at hd
  by_cases k8 : e.kind = 8
  · rw [if_pos k8] at hd
    unfold storeS at hd; split at hd
    case isFalse => cases hd
    rename_i hc
    cases hd
    exact ⟨by omega, by omega, by omega, by omega, by omega, fun _ _ _ => fin _ rfl rfl (fun h => ⟨h, rfl, rfl⟩)⟩
  rw [if_neg k8] at hd
  by_cases k9 : e.kind = 9
  · rw [if_pos k9] at hd
    unfold freedS at hd; split at hd
    case isFalse => cases hd
    rename_i hc
    obtain ⟨h1, h2⟩ := hatS (by omega) (by omega)
    have hbit : (s.ths.getD th Th.zero).owned.testBit e.at_.toNat = true := by
      have : e.at_.toNat = leastb (s.ths.getD th Th.zero).owned := by omega
      rw [this]; exact leastb_some (by omega)
    have hown := ht.own _ hbit
    have h56 : (s.ths.getD th Th.zero).at_ = 4 ∨ (s.ths.getD th Th.zero).at_ = 5 ∨ (s.ths.getD th Th.zero).at_ = 6 := by omega
    have hwv := hj.w th hlt h56
    have hlo := hj.o th hlt h56 _ hbit
    have hwc := ht.wvb
    have key : ∀ t', t'.rv = (s.ths.getD th Th.zero).rv → t'.wv = (s.ths.getD th Th.zero).wv → t'.owned = clrb (s.ths.getD th Th.zero).owned e.at_.toNat → s' = (s.setSt e.at_ (-1, (s.ths.getD th Th.zero).wv)).setTh e.th t' →
        s'.clock = s.clock ∧ (∀ i, thR s' i = thR s i) ∧ VerL s' wv (upd ver e.at_.toNat (wv th)) := by
      intro t' q1 q2 q4 q3
      subst q3
      refine ⟨rfl, hrv _ t' (by simp [Sh.setTh, Sh.setSt, htn]) q1, ?_⟩
      refine ⟨fun i hi hx => ?_, fun i hi => ?_, fun i => ?_, fun i hi hx b hb => ?_⟩
      · simp only [Sh.setTh, Sh.setSt, htn, List.length_set] at hi hx ⊢
        by_cases he : th = i
        · subst he; rw [getD_set_eq _ _ _ _ hlt]; rw [q2]; exact hwv
        · rw [getD_set_ne _ _ _ _ _ he] at hx ⊢; exact hj.w i hi hx
      · show upd ver e.at_.toNat (wv th) i ≤ ((s.sts.set e.at_.toNat (-1, (s.ths.getD th Th.zero).wv)).getD i (-1, 0)).2
        by_cases hi' : e.at_.toNat = i
        · subst hi'; rw [getD_set_eq _ _ _ _ h2]; simp only [upd, if_true]; omega
        · rw [getD_set_ne _ _ _ _ _ hi']; simp only [upd, if_neg (Ne.symm hi')]; exact hj.v i (by simpa [Sh.setTh, Sh.setSt] using hi)
      · simp only [Sh.setTh, Sh.setSt, upd]; split
        · omega
        · exact hj.c i
      · simp only [Sh.setTh, Sh.setSt, htn, List.length_set] at hi hx hb
        by_cases he : th = i
        · subst he
          rw [getD_set_eq _ _ _ _ hlt] at hb
          rw [q4, testBit_clrb, Bool.and_eq_true] at hb
          have hne : b ≠ e.at_.toNat := by have := hb.2; simp at this; exact fun h' => this h'.symm
          simp only [upd, if_neg hne]
          exact hj.o th hlt h56 b hb.1
        · rw [getD_set_ne _ _ _ _ _ he] at hx hb
          have hob := (hw.th i hi).own b hb
          have hne : b ≠ e.at_.toNat := by
            intro hbe; subst hbe; omega
          simp only [upd, if_neg hne]
          exact hj.o i hi hx b hb
    refine ⟨by omega, by omega, by omega, by omega, fun _ => ⟨hlo, ?_⟩, by omega⟩
    cases hd
    by_cases hz : clrb (s.ths.getD th Th.zero).owned e.at_.toNat = 0
    · exact key { s.ths.getD th Th.zero with at_ := 0, owned := clrb (s.ths.getD th Th.zero).owned e.at_.toNat, commits := (s.ths.getD th Th.zero).commits + 1 } rfl rfl rfl (by rw [if_pos hz])
    · exact key { s.ths.getD th Th.zero with at_ := 6, owned := clrb (s.ths.getD th Th.zero).owned e.at_.toNat } rfl rfl rfl (by rw [if_neg hz])
  rw [if_neg k9] at hd
  by_cases k10 : e.kind = 10
  · rw [if_pos k10] at hd
    unfold abortS at hd; split at hd
    case isFalse => cases hd
    cases hd
    exact ⟨by omega, by omega, by omega, by omega, by omega, fun _ _ _ => fin _ rfl rfl (by intro hx; simp only at hx; split at hx <;> omega)⟩
  rw [if_neg k10] at hd
  by_cases k11 : e.kind = 11
  · rw [if_pos k11] at hd
    unfold undoS at hd; split at hd
    case isFalse => cases hd
    rename_i hc
    cases hd
    obtain ⟨h1, h2⟩ := hatS (by omega) (by omega)
    refine ⟨by omega, by omega, by omega, by omega, by omega, fun _ _ _ => ⟨rfl, ?_, ?_⟩⟩
    · exact hrv _ _ (hst _ _ rfl) rfl
    · have hk1 := hj.keep (s' := s.setTh e.th { s.ths.getD th Th.zero with at_ := if clrb (s.ths.getD th Th.zero).owned e.at_.toNat = 0 then (if (s.ths.getD th Th.zero).full then 9 else 0) else 7, owned := clrb (s.ths.getD th Th.zero).owned e.at_.toNat }) (th := th) (hst _ _ rfl) rfl (by simp [Sh.setTh]) hlt (by intro hx; simp only at hx; split at hx; (split at hx <;> omega); omega)
      refine ⟨hk1.w, fun i hi => ?_, hk1.c, hk1.o⟩
      show ver i ≤ ((s.sts.set e.at_.toNat (-1, s.ver e.at_)).getD i (-1, 0)).2
      by_cases hi' : e.at_.toNat = i
      · subst hi'; rw [getD_set_eq _ _ _ _ h2]; exact hj.v _ h2
      · rw [getD_set_ne _ _ _ _ _ hi']; exact hj.v i (by simpa [Sh.setTh, Sh.setSt] using hi)
  rw [if_neg k11] at hd
  by_cases k12 : e.kind = 12
  · rw [if_pos k12] at hd
    unfold waitS at hd; split at hd
    case isFalse => cases hd
    cases hd
    exact ⟨by omega, by omega, by omega, by omega, by omega, fun _ _ _ => fin _ rfl rfl (by simp)⟩
  rw [if_neg k12] at hd
  unfold wakeS at hd; split at hd
  case isFalse => cases hd
  cases hd
  exact ⟨by omega, by omega, by omega, by omega, by omega, fun _ _ _ => fin _ rfl rfl (by simp)⟩
end Go.Proofs.YtnmbacleaijhmaaDoor
/-
  Attempts as data: what a history of events is, step by step; and what holds of it beside the checker's machine. Nothing of the program.
-/
namespace Go.Proofs.YtnmbacleaijhmaaDoor
set_option linter.unusedVariables false
set_option linter.unusedSimpArgs false
set_option linter.unusedVariables false

/-! ### Counting bits -/
def cntb (m : Nat) : Nat := (List.range 32).countP fun i => m.testBit i
theorem countP_or (p : Nat → Bool) (s : Nat) (h : p s = false) : ∀ n, (List.range n).countP (fun i => p i || decide (s = i)) = (List.range n).countP p + if s < n then 1 else 0
  | 0 => by simp
  | n + 1 => by
    rw [List.range_succ, List.countP_append, List.countP_append, countP_or p s h n]
    simp only [List.countP_cons, List.countP_nil]
    by_cases he : s = n
    · subst he
      rw [h]
      simp
    · simp only [he, decide_false, Bool.or_false]
      by_cases hl : s < n
      · rw [if_pos hl, if_pos (show s < n + 1 by omega)]; omega
      · rw [if_neg hl, if_neg (show ¬ s < n + 1 by omega)]; omega
theorem countP_and (p : Nat → Bool) (s : Nat) (h : p s = true) : ∀ n, (List.range n).countP (fun i => p i && !decide (s = i)) + (if s < n then 1 else 0) = (List.range n).countP p
  | 0 => by simp
  | n + 1 => by
    have ih := countP_and p s h n
    rw [List.range_succ, List.countP_append, List.countP_append]
    simp only [List.countP_cons, List.countP_nil]
    by_cases he : s = n
    · subst he
      rw [h]
      rw [if_neg (by omega)] at ih
      simp
      omega
    · simp only [he, decide_false, Bool.not_false, Bool.and_true]
      by_cases hl : s < n
      · rw [if_pos hl] at ih; rw [if_pos (show s < n + 1 by omega)]; omega
      · rw [if_neg hl] at ih; rw [if_neg (show ¬ s < n + 1 by omega)]; omega
theorem cntb_set {m s : Nat} (h : m.testBit s = false) (hs : s < 32) : cntb (setb m s) = cntb m + 1 := by
  unfold cntb
  simp only [testBit_setb]
  rw [countP_or (fun i => m.testBit i) s h 32, if_pos hs]
theorem cntb_clr {m s : Nat} (h : m.testBit s = true) (hs : s < 32) : cntb (clrb m s) + 1 = cntb m := by
  unfold cntb
  simp only [testBit_clrb]
  have := countP_and (fun i => m.testBit i) s h 32
  rw [if_pos hs] at this
  exact this
theorem cntb_zero {m : Nat} (hm : m < 4294967296) : cntb m = 0 ↔ m = 0 := by
  constructor
  · intro h
    unfold cntb at h
    rw [List.countP_eq_zero] at h
    refine zero_of_testBit hm fun i hi => ?_
    have := h i (List.mem_range.2 hi)
    simpa using this
  · rintro rfl
    unfold cntb
    rw [List.countP_eq_zero]
    intro i _
    simp

/-! ### Attempts -/
structure Att where
  th : Int
  tx : Int
  from_ : Int
  to_ : Int
  rv : Int
  wv : Int
  com : Bool
  reads : List (Int × Int)
  writes : List (Int × Int)
def Att.zero : Att := ⟨0, 0, 0, 0, 0, 0, false, [], []⟩
structure HS where
  last : Int → Nat
  out : List Att
  owned : List Int
def newA (e : Ev) (i : Int) : Att := ⟨e.th, e.tx, i, -1, e.v, 0, false, [], []⟩
/-- What an event (no Begin, no Wake) makes of its attempt. -/
def turnA (a : Att) (o : Int) (e : Ev) (i : Int) : Att :=
  if e.kind = 3 then { a with reads := a.reads ++ [(e.at_, e.x)] }
  else if e.kind = 8 then { a with writes := a.writes ++ [(e.at_, e.x)] }
  else if e.kind = 7 then { a with com := true, wv := e.v, to_ := if o = 0 then i else a.to_ }
  else if e.kind = 9 ∨ e.kind = 11 then { a with to_ := if o - 1 = 0 then i else a.to_ }
  else if e.kind = 10 then { a with to_ := if o = 0 then i else a.to_ }
  else if e.kind = 12 then { a with to_ := i }
  else a
def turnO (o : Int) (e : Ev) : Int := if e.kind = 4 then o + 1 else if e.kind = 9 ∨ e.kind = 11 then o - 1 else o
def updN (f : Int → Nat) (i : Int) (x : Nat) : Int → Nat := fun j => if j = i then x else f j
def stepH (h : HS) (i : Int) (e : Ev) : HS :=
  if e.kind = 1 then ⟨updN h.last e.th h.out.length, h.out ++ [newA e i], h.owned ++ [0]⟩
  else if e.kind = 13 then h
  else ⟨h.last, h.out.set (h.last e.th) (turnA (h.out.getD (h.last e.th) Att.zero) (h.owned.getD (h.last e.th) 0) e i), h.owned.set (h.last e.th) (turnO (h.owned.getD (h.last e.th) 0) e)⟩
/-- Of which attempt an event is; -1: of none. -/
def ofH (h : HS) (e : Ev) : Int := if e.kind = 1 then h.out.length else if e.kind = 13 then -1 else h.last e.th
def newH : HS := ⟨fun _ => 0, [], []⟩
def histF (h : HS) (i : Int) : List Ev → HS
  | [] => h
  | e :: l => histF (stepH h i e) (i + 1) l
def ofF (h : HS) (i : Int) : List Ev → List Int
  | [] => []
  | e :: l => ofH h e :: ofF (stepH h i e) (i + 1) l
theorem histF_snoc (e : Ev) : ∀ (l : List Ev) (h : HS) (i : Int), histF h i (l ++ [e]) = stepH (histF h i l) (i + l.length) e
  | [], h, i => by simp [histF]
  | x :: l, h, i => by
    show histF (stepH h i x) (i + 1) (l ++ [e]) = _
    rw [histF_snoc e l]
    simp only [List.length_cons]
    show _ = stepH (histF (stepH h i x) (i + 1) l) _ e
    congr 1
    omega
theorem ofF_snoc (e : Ev) : ∀ (l : List Ev) (h : HS) (i : Int), ofF h i (l ++ [e]) = ofF h i l ++ [ofH (histF h i l) e]
  | [], h, i => rfl
  | x :: l, h, i => by
    show ofH h x :: ofF (stepH h i x) (i + 1) (l ++ [e]) = _
    rw [ofF_snoc e l]
    rfl
theorem ofF_len : ∀ (l : List Ev) (h : HS) (i : Int), (ofF h i l).length = l.length
  | [], h, i => rfl
  | x :: l, h, i => by
    show (ofF (stepH h i x) (i + 1) l).length + 1 = _
    rw [ofF_len l]; rfl
def histT (l : List Ev) : HS := histF newH 0 l
def ofT (l : List Ev) : List Int := ofF newH 0 l
theorem histT_step {l : List Ev} {k : Nat} (hk : k < l.length) : histT (l.take (k + 1)) = stepH (histT (l.take k)) k l[k] := by
  have e : l.take (k + 1) = l.take k ++ [l[k]] := by rw [List.take_succ_eq_append_getElem hk]
  unfold histT
  rw [e, histF_snoc, List.length_take, Nat.min_eq_left (Nat.le_of_lt hk), Int.zero_add]
theorem ofT_step {l : List Ev} {k : Nat} (hk : k < l.length) : ofT (l.take (k + 1)) = ofT (l.take k) ++ [ofH (histT (l.take k)) l[k]] := by
  have e : l.take (k + 1) = l.take k ++ [l[k]] := by rw [List.take_succ_eq_append_getElem hk]
  unfold ofT histT
  rw [e, ofF_snoc]
end Go.Proofs.YtnmbacleaijhmaaDoor
/-
  Attempts beside the checker's machine: what holds behind every event. Nothing of the program.
-/
namespace Go.Proofs.YtnmbacleaijhmaaDoor
set_option linter.unusedVariables false
set_option linter.unusedSimpArgs false
set_option linter.unusedVariables false

def Rising (l : List (Int × Int)) : Prop := l.Pairwise fun p q => p.1 < q.1
/-- What holds of an attempt. -/
structure AttOk (T V clk n : Int) (a : Att) : Prop where
  th : 0 ≤ a.th ∧ a.th < T
  tx : 0 ≤ a.tx
  from_ : 0 ≤ a.from_ ∧ a.from_ < n
  to_ : a.to_ = -1 ∨ (a.from_ ≤ a.to_ ∧ a.to_ < n)
  rv : 0 ≤ a.rv ∧ a.rv ≤ clk
  wv : 0 ≤ a.wv ∧ a.wv ≤ clk
  gt : a.wv ≠ 0 → a.rv < a.wv
  nc : a.com = false → a.wv = 0
  nw : a.wv = 0 → a.writes = []
  rds : ∀ p ∈ a.reads, 0 ≤ p.1 ∧ p.1 < V
  wrs : ∀ p ∈ a.writes, 0 ≤ p.1 ∧ p.1 < V
  up : Rising a.writes
theorem AttOk.mono {T V c c' n n' : Int} {a : Att} (h : AttOk T V c n a) (hc : c ≤ c') (hn : n ≤ n') : AttOk T V c' n' a :=
  ⟨h.th, h.tx, by have := h.from_; omega, by have := h.to_; omega, by have := h.rv; omega, by have := h.wv; omega, h.gt, h.nc, h.nw, h.rds, h.wrs, h.up⟩
/-- A thread, and its last attempt. -/
structure HT (t : Th) (a : Att) (o : Int) : Prop where
  o : o = cntb t.owned
  rv : a.rv = t.rv
  run : t.at_ = 1 ∨ t.at_ = 2 ∨ t.at_ = 3 ∨ t.at_ = 4 ∨ t.at_ = 7 → a.to_ = -1 ∧ a.com = false ∧ t.commits = a.tx
  put : t.at_ = 5 ∨ t.at_ = 6 → a.to_ = -1 ∧ a.com = true ∧ a.wv = t.wv ∧ a.wv ≠ 0 ∧ t.commits = a.tx
  var : t.at_ = 5 → ∀ p ∈ a.writes, p.1 ≤ t.var
  done : t.at_ = 0 → a.to_ ≠ -1 ∧ t.commits = a.tx + if a.com = true then 1 else 0
  stop : t.at_ = 8 ∨ t.at_ = 9 → a.to_ ≠ -1 ∧ a.com = false ∧ t.commits = a.tx
structure HI (s : Sh) (h : HS) (n : Int) : Prop where
  len : h.owned.length = h.out.length
  pos : 0 ≤ n
  att : ∀ (k : Nat) (a : Att), h.out[k]? = some a → AttOk s.ths.length s.vars s.clock n a
  pair : ∀ (j k : Nat) (a b : Att), j < k → h.out[j]? = some a → h.out[k]? = some b → a.from_ < b.from_ ∧ a.rv ≤ b.rv ∧ (a.to_ ≠ -1 → a.to_ < b.from_ → a.wv ≤ b.rv) ∧ (b.wv ≠ 0 → a.wv ≠ b.wv) ∧ (a.th = b.th → a.to_ ≠ -1 ∧ a.to_ < b.from_)
  row : ∀ (j k : Nat) (a b : Att), j < k → h.out[j]? = some a → h.out[k]? = some b → a.th = b.th → (∀ (m : Nat) (c : Att), j < m → m < k → h.out[m]? = some c → c.th ≠ b.th) → b.tx = a.tx + if a.com = true then 1 else 0
  row0 : ∀ (k : Nat) (b : Att), h.out[k]? = some b → (∀ (j : Nat) (a : Att), j < k → h.out[j]? = some a → a.th ≠ b.th) → b.tx = 0
  thr : ∀ i, i < s.ths.length → ((∀ (m : Nat) (c : Att), h.out[m]? = some c → c.th ≠ (i : Int)) ∧ (s.ths.getD i Th.zero).at_ = 0 ∧ (s.ths.getD i Th.zero).commits = 0) ∨
    ∃ a o, h.out[h.last i]? = some a ∧ h.owned[h.last i]? = some o ∧ a.th = (i : Int) ∧ (∀ (m : Nat) (c : Att), h.last i < m → h.out[m]? = some c → c.th ≠ (i : Int)) ∧ HT (s.ths.getD i Th.zero) a o
  pend : ∀ i, i < s.ths.length → (s.ths.getD i Th.zero).at_ = 4 → ((s.ths.getD i Th.zero).wv ≠ 0 ∧ (s.ths.getD i Th.zero).rv < (s.ths.getD i Th.zero).wv) ∧ (∀ (k : Nat) (a : Att), h.out[k]? = some a → a.wv ≠ (s.ths.getD i Th.zero).wv) ∧
    (∀ j, j < s.ths.length → j ≠ i → (s.ths.getD j Th.zero).at_ = 4 → (s.ths.getD j Th.zero).wv ≠ (s.ths.getD i Th.zero).wv)

theorem getElem?_set_cases {α : Type} {l : List α} {k j : Nat} {x y : α} (h : (l.set k x)[j]? = some y) : (j = k ∧ y = x ∧ k < l.length) ∨ (j ≠ k ∧ l[j]? = some y) := by
  rw [List.getElem?_set] at h
  split at h
  · rename_i he
    split at h
    · cases h; exact .inl ⟨he.symm, rfl, by assumption⟩
    · cases h
  · rename_i he
    exact .inr ⟨fun e => he e.symm, h⟩
theorem getElem?_snoc_cases {α : Type} {l : List α} {j : Nat} {x y : α} (h : (l ++ [x])[j]? = some y) : (j = l.length ∧ y = x) ∨ (j < l.length ∧ l[j]? = some y) := by
  rcases Nat.lt_trichotomy j l.length with hl | he | hg
  · rw [List.getElem?_append_left hl] at h; exact .inr ⟨hl, h⟩
  · subst he
    rw [List.getElem?_append_right (Nat.le_refl _), Nat.sub_self] at h
    cases h; exact .inl ⟨rfl, rfl⟩
  · rw [List.getElem?_eq_none (by simp; omega)] at h; cases h

/-- An event turns its attempt. -/
theorem HI.turn {s s' : Sh} {h : HS} {n : Int} (hi : HI s h n) {th : Nat} {t' : Th} {a a' : Att} {o' : Int} (hlt : th < s.ths.length) (hths : s'.ths = s.ths.set th t') (hclk : s.clock ≤ s'.clock) (hv : s'.vars = s.vars)
    (ha : h.out[h.last th]? = some a) (hath : a.th = (th : Int)) (hlast : ∀ (m : Nat) (c : Att), h.last th < m → h.out[m]? = some c → c.th ≠ (th : Int))
    (same : a'.th = a.th ∧ a'.tx = a.tx ∧ a'.from_ = a.from_ ∧ a'.rv = a.rv) (hto : a.to_ = -1 ∧ (a'.to_ = -1 ∨ a'.to_ = n))
    (hwv : a'.wv = a.wv ∨ ((s.ths.getD th Th.zero).at_ = 4 ∧ a'.wv = (s.ths.getD th Th.zero).wv ∧ t'.at_ ≠ 4))
    (hok : AttOk s.ths.length s.vars s'.clock (n + 1) a') (hHT : HT t' a' o')
    (hp : t'.at_ = 4 → t'.rv = (s.ths.getD th Th.zero).rv ∧ (((s.ths.getD th Th.zero).at_ = 4 ∧ t'.wv = (s.ths.getD th Th.zero).wv) ∨ s.clock < t'.wv))
    (hrv : (s.ths.getD th Th.zero).rv ≤ s.clock) (hc0 : 0 ≤ s.clock) (hwvs : ∀ i, i < s.ths.length → (s.ths.getD i Th.zero).wv ≤ s.clock) :
    HI s' ⟨h.last, h.out.set (h.last th) a', h.owned.set (h.last th) o'⟩ (n + 1) := by
  obtain ⟨s1, s2, s3, s4⟩ := same
  have hkl : h.last th < h.out.length := (List.getElem?_eq_some_iff.1 ha).1
  have hT : s'.ths.length = s.ths.length := by rw [hths, List.length_set]
  have gEq : s'.ths.getD th Th.zero = t' := by rw [hths]; exact getD_set_eq _ _ _ _ hlt
  have gNe : ∀ i, i ≠ th → s'.ths.getD i Th.zero = s.ths.getD i Th.zero := fun i hne => by rw [hths]; exact getD_set_ne _ _ _ _ _ (fun e => hne e.symm)
  have hfr := (hi.att _ _ ha).from_
  constructor
  · show (h.owned.set _ _).length = (h.out.set _ _).length
    rw [List.length_set, List.length_set]; exact hi.len
  · have := hi.pos; omega
  · intro k b hb
    rw [hT, hv]
    have hb_ := getElem?_set_cases hb; clear hb
    rcases hb_ with ⟨rfl, rfl, _⟩ | ⟨_, hb⟩
    · exact hok
    · exact (hi.att _ _ hb).mono hclk (by omega)
  · intro j k b c hjk hb hc
    have hb_ := getElem?_set_cases hb; clear hb
    rcases hb_ with ⟨rfl, rfl, _⟩ | ⟨hne, hb⟩
    · have hc_ := getElem?_set_cases hc; clear hc
      rcases hc_ with ⟨rfl, rfl, _⟩ | ⟨_, hc⟩
      · omega
      · obtain ⟨p1, p2, p3, p4, p5⟩ := hi.pair _ _ _ _ hjk ha hc
        have hcf := (hi.att _ _ hc).from_
        have hthc : c.th ≠ (th : Int) := hlast _ _ hjk hc
        refine ⟨by rw [s3]; exact p1, by rw [s4]; exact p2, fun h1 h2 => by omega, fun h1 => ?_, fun h1 => absurd (by rw [← h1, s1]; exact hath) hthc⟩
        rcases hwv with e | ⟨e1, e2, e3⟩
        · rw [e]; exact p4 h1
        · rw [e2]; exact fun e => ((hi.pend th hlt e1).2.1 _ _ hc) e.symm
    · have hc_ := getElem?_set_cases hc; clear hc
      rcases hc_ with ⟨rfl, rfl, _⟩ | ⟨_, hc⟩
      · obtain ⟨p1, p2, p3, p4, p5⟩ := hi.pair _ _ _ _ hjk hb ha
        refine ⟨by rw [s3]; exact p1, by rw [s4]; exact p2, by rw [s3, s4]; exact p3, fun h1 => ?_, by rw [s1, s3]; exact p5⟩
        rcases hwv with e | ⟨e1, e2, e3⟩
        · rw [e] at h1 ⊢; exact p4 h1
        · rw [e2]; exact (hi.pend th hlt e1).2.1 _ _ hb
      · exact hi.pair _ _ _ _ hjk hb hc
  · intro j k b c hjk hb hc hbc hm
    have hm' : ∀ (m : Nat) (d : Att), j < m → m < k → h.out[m]? = some d → d.th ≠ c.th := by
      intro m d h1 h2 hd
      by_cases he : m = h.last th
      · subst he
        rw [ha] at hd
        cases hd
        have := hm _ a' h1 h2 (by rw [List.getElem?_set_self hkl])
        rw [s1] at this
        exact this
      · exact hm _ _ h1 h2 (by rw [List.getElem?_set_ne (fun e => he e.symm)]; exact hd)
    have hb_ := getElem?_set_cases hb; clear hb
    rcases hb_ with ⟨rfl, rfl, _⟩ | ⟨hne, hb⟩
    · have hc_ := getElem?_set_cases hc; clear hc
      rcases hc_ with ⟨rfl, rfl, _⟩ | ⟨_, hc⟩
      · omega
      · exact absurd (by rw [← hbc, s1]; exact hath) (hlast _ _ hjk hc)
    · have hc_ := getElem?_set_cases hc; clear hc
      rcases hc_ with ⟨rfl, rfl, _⟩ | ⟨_, hc⟩
      · rw [s2]
        exact hi.row _ _ _ _ hjk hb ha (by rw [hbc, s1]) (by rw [s1] at hm'; exact hm')
      · exact hi.row _ _ _ _ hjk hb hc hbc hm'
  · intro k c hc hm
    have hm' : ∀ (j : Nat) (d : Att), j < k → h.out[j]? = some d → d.th ≠ c.th := by
      intro m d h1 hd
      by_cases he : m = h.last th
      · subst he
        rw [ha] at hd
        cases hd
        have := hm _ a' h1 (by rw [List.getElem?_set_self hkl])
        rw [s1] at this
        exact this
      · exact hm _ _ h1 (by rw [List.getElem?_set_ne (fun e => he e.symm)]; exact hd)
    have hc_ := getElem?_set_cases hc; clear hc
    rcases hc_ with ⟨rfl, rfl, _⟩ | ⟨_, hc⟩
    · rw [s2]; exact hi.row0 _ _ ha (by rw [s1] at hm'; exact hm')
    · exact hi.row0 _ _ hc hm'
  · intro i hil
    rw [hT] at hil
    by_cases he : i = th
    · subst he
      refine .inr ⟨a', o', List.getElem?_set_self hkl, List.getElem?_set_self (by rw [hi.len]; exact hkl), by rw [s1]; exact hath, ?_, by rw [gEq]; exact hHT⟩
      intro m c hm hc
      have hm : h.last (i : Int) < m := hm
      have hc_ := getElem?_set_cases hc; clear hc
      rcases hc_ with ⟨rfl, rfl, _⟩ | ⟨_, hc⟩
      · rw [s1]; omega
      · exact hlast _ _ hm hc
    · rw [gNe i he]
      have hsame : ∀ (m : Nat) (c : Att), (h.out.set (h.last th) a')[m]? = some c → ∃ c0, h.out[m]? = some c0 ∧ c0.th = c.th := by
        intro m c hc
        have hc_ := getElem?_set_cases hc; clear hc
        rcases hc_ with ⟨rfl, rfl, _⟩ | ⟨_, hc⟩
        · exact ⟨a, ha, s1.symm⟩
        · exact ⟨c, hc, rfl⟩
      rcases hi.thr i hil with ⟨h1, h2⟩ | ⟨b, o, h1, h2, h3, h4, h5⟩
      · refine .inl ⟨fun m c hc => ?_, h2⟩
        obtain ⟨c0, hc0, e⟩ := hsame m c hc
        rw [← e]; exact h1 _ _ hc0
      · have hne : h.last th ≠ h.last i := by
          intro e
          rw [← e, ha] at h1
          cases h1
          omega
        refine .inr ⟨b, o, by rw [List.getElem?_set_ne hne]; exact h1, by rw [List.getElem?_set_ne hne]; exact h2, h3, fun m c hm hc => ?_, h5⟩
        obtain ⟨c0, hc0, e⟩ := hsame m c hc
        rw [← e]; exact h4 _ _ hm hc0
  · intro i hil h4
    rw [hT] at hil
    have hwa : ∀ (k : Nat) (b : Att), (h.out.set (h.last th) a')[k]? = some b → (∃ b0, h.out[k]? = some b0 ∧ b0.wv = b.wv) ∨ ((s.ths.getD th Th.zero).at_ = 4 ∧ b.wv = (s.ths.getD th Th.zero).wv ∧ t'.at_ ≠ 4) := by
      intro k b hb
      have hb_ := getElem?_set_cases hb; clear hb
      rcases hb_ with ⟨rfl, rfl, _⟩ | ⟨_, hb⟩
      · rcases hwv with e | e
        · exact .inl ⟨a, ha, e.symm⟩
        · exact .inr e
      · exact .inl ⟨b, hb, rfl⟩
    by_cases he : i = th
    · subst he
      rw [gEq] at h4 ⊢
      obtain ⟨e1, e2⟩ := hp h4
      have hout : ∀ (k : Nat) (b : Att), (h.out.set (h.last i) a')[k]? = some b → ∃ b0, h.out[k]? = some b0 ∧ b0.wv = b.wv := fun k b hb => by
        rcases hwa k b hb with e | ⟨_, _, e⟩
        · exact e
        · exact absurd h4 e
      rcases e2 with ⟨f1, f2⟩ | f
      · obtain ⟨g1, g2, g3⟩ := hi.pend i hlt f1
        rw [e1, f2]
        refine ⟨g1, fun k b hb => ?_, fun j hj hji hj4 => ?_⟩
        · obtain ⟨b0, hb0, e⟩ := hout k b hb
          rw [← e]; exact g2 _ _ hb0
        · rw [hT] at hj
          rw [gNe j hji] at hj4 ⊢
          exact g3 j hj hji hj4
      · refine ⟨⟨by omega, by omega⟩, fun k b hb => ?_, fun j hj hji hj4 => ?_⟩
        · obtain ⟨b0, hb0, e⟩ := hout k b hb
          have := (hi.att _ _ hb0).wv
          omega
        · rw [hT] at hj
          rw [gNe j hji]
          have := hwvs j hj
          omega
    · rw [gNe i he] at h4 ⊢
      obtain ⟨g1, g2, g3⟩ := hi.pend i hil h4
      refine ⟨g1, fun k b hb => ?_, fun j hj hji hj4 => ?_⟩
      · rcases hwa k b hb with ⟨b0, hb0, e⟩ | ⟨f1, f2, f3⟩
        · rw [← e]; exact g2 _ _ hb0
        · rw [f2]; exact g3 th hlt (fun e => he e.symm) f1
      · rw [hT] at hj
        by_cases hj2 : j = th
        · subst hj2
          rw [gEq] at hj4 ⊢
          obtain ⟨_, ⟨f1, f2⟩ | f⟩ := hp hj4
          · rw [f2]; exact g3 j hj hji f1
          · have := hwvs i hil
            omega
        · rw [gNe j hj2] at hj4 ⊢
          exact g3 j hj hji hj4
/-- A Begin. -/
theorem HI.begin {s s' : Sh} {h : HS} {n : Int} (hi : HI s h n) {th : Nat} {t' : Th} {e : Ev} (hthe : e.th = (th : Int)) (hlt : th < s.ths.length) (hths : s'.ths = s.ths.set th t') (hclk : s'.clock = e.v) (hge : s.clock ≤ e.v) (hc0 : 0 ≤ s.clock) (hv : s'.vars = s.vars)
    (h0 : (s.ths.getD th Th.zero).at_ = 0) (htx : e.tx = (s.ths.getD th Th.zero).commits) (htx0 : 0 ≤ e.tx) (ht' : t' = ⟨1, (s.ths.getD th Th.zero).commits, e.v, 0, 0, 0, 0, 0, 0, 0, -1, -1, false⟩) :
    HI s' ⟨updN h.last e.th h.out.length, h.out ++ [newA e n], h.owned ++ [0]⟩ (n + 1) := by
  have hT : s'.ths.length = s.ths.length := by rw [hths, List.length_set]
  have gEq : s'.ths.getD th Th.zero = t' := by rw [hths]; exact getD_set_eq _ _ _ _ hlt
  have gNe : ∀ i, i ≠ th → s'.ths.getD i Th.zero = s.ths.getD i Th.zero := fun i hne => by rw [hths]; exact getD_set_ne _ _ _ _ _ (fun e => hne e.symm)
  have hpos := hi.pos
  have uEq : updN h.last e.th h.out.length (th : Int) = h.out.length := by unfold updN; rw [if_pos hthe.symm]
  have uNe : ∀ i : Nat, i ≠ th → updN h.last e.th h.out.length (i : Int) = h.last (i : Int) := fun i hne => by unfold updN; rw [if_neg (by omega)]
  -- an attempt of that thread ahead has ended
  have hended : ∀ (j : Nat) (a : Att), h.out[j]? = some a → a.th = (th : Int) → a.to_ ≠ -1 ∧ a.to_ < n := by
    intro j a ha hath
    rcases hi.thr th hlt with ⟨h1, _⟩ | ⟨b, o, h1, h2, h3, h4, h5⟩
    · exact absurd hath (h1 _ _ ha)
    · have hd := h5.done h0
      have hbk := hi.att _ _ h1
      rcases Nat.lt_trichotomy j (h.last th) with hl | he | hg
      · have hp := (hi.pair _ _ _ _ hl ha h1).2.2.2.2 (by rw [hath, h3])
        have := hbk.from_
        exact ⟨hp.1, by omega⟩
      · subst he
        rw [h1] at ha
        cases ha
        have := hbk.to_
        refine ⟨hd.1, ?_⟩
        rcases this with e | e
        · exact absurd e hd.1
        · exact e.2
      · exact absurd hath (h4 _ _ hg ha)
  constructor
  · show (h.owned ++ [0]).length = (h.out ++ [newA e n]).length
    rw [List.length_append, List.length_append, hi.len]; rfl
  · omega
  · intro k b hb
    rw [hT, hv, hclk]
    have hb_ := getElem?_snoc_cases hb; clear hb
    rcases hb_ with ⟨rfl, rfl⟩ | ⟨_, hb⟩
    · refine ⟨by show 0 ≤ e.th ∧ e.th < _; omega, htx0, by show 0 ≤ n ∧ n < n + 1; omega, .inl rfl, by show 0 ≤ e.v ∧ e.v ≤ e.v; omega, by show (0 : Int) ≤ 0 ∧ (0 : Int) ≤ e.v; omega, fun h => absurd rfl h, fun _ => rfl, fun _ => rfl, fun p hp => ?_, fun p hp => ?_, List.Pairwise.nil⟩
      · exact absurd hp (List.not_mem_nil)
      · exact absurd hp (List.not_mem_nil)
    · exact (hi.att _ _ hb).mono hge (by omega)
  · intro j k b c hjk hb hc
    have hc_ := getElem?_snoc_cases hc; clear hc
    rcases hc_ with ⟨rfl, rfl⟩ | ⟨hk, hc⟩
    · have hb_ := getElem?_snoc_cases hb; clear hb
      rcases hb_ with ⟨rfl, rfl⟩ | ⟨hj, hb⟩
      · omega
      · have hbk := hi.att _ _ hb
        have b1 := hbk.from_
        have b2 := hbk.rv
        have b3 := hbk.wv
        refine ⟨by show b.from_ < n; omega, by show b.rv ≤ e.v; omega, fun _ _ => by show b.wv ≤ e.v; omega, fun h => absurd rfl h, fun h => ?_⟩
        exact hended _ _ hb (by rw [h]; exact hthe)
    · have hb_ := getElem?_snoc_cases hb; clear hb
      rcases hb_ with ⟨rfl, rfl⟩ | ⟨hj, hb⟩
      · omega
      · exact hi.pair _ _ _ _ hjk hb hc
  · intro j k b c hjk hb hc hbc hm
    have hc_ := getElem?_snoc_cases hc; clear hc
    rcases hc_ with ⟨rfl, rfl⟩ | ⟨hk, hc⟩
    · have hb_ := getElem?_snoc_cases hb; clear hb
      rcases hb_ with ⟨rfl, rfl⟩ | ⟨hj, hb⟩
      · omega
      · have hbth : b.th = (th : Int) := by rw [hbc]; exact hthe
        rcases hi.thr th hlt with ⟨h1, _⟩ | ⟨d, o, h1, h2, h3, h4, h5⟩
        · exact absurd hbth (h1 _ _ hb)
        · rcases Nat.lt_trichotomy j (h.last th) with hl | he | hg
          · have hdl := (List.getElem?_eq_some_iff.1 h1).1
            exact absurd (by rw [h3]; exact hthe.symm) (hm _ d hl hdl (by rw [List.getElem?_append_left hdl]; exact h1))
          · subst he
            rw [h1] at hb
            cases hb
            show e.tx = _
            rw [htx]
            exact (h5.done h0).2
          · exact absurd hbth (h4 _ _ hg hb)
    · have hb_ := getElem?_snoc_cases hb; clear hb
      rcases hb_ with ⟨rfl, rfl⟩ | ⟨hj, hb⟩
      · omega
      · exact hi.row _ _ _ _ hjk hb hc hbc (fun m d h1 h2 hd => hm m d h1 h2 (by rw [List.getElem?_append_left (by omega)]; exact hd))
  · intro k c hc hm
    have hc_ := getElem?_snoc_cases hc; clear hc
    rcases hc_ with ⟨rfl, rfl⟩ | ⟨hk, hc⟩
    · show e.tx = 0
      rcases hi.thr th hlt with ⟨_, _, h1⟩ | ⟨d, o, h1, h2, h3, h4, h5⟩
      · rw [htx, h1]
      · have hdl := (List.getElem?_eq_some_iff.1 h1).1
        exact absurd (by rw [h3]; exact hthe.symm) (hm _ d hdl (by rw [List.getElem?_append_left hdl]; exact h1))
    · exact hi.row0 _ _ hc (fun j a hj ha => hm j a hj (by rw [List.getElem?_append_left (by omega)]; exact ha))
  · intro i hil
    rw [hT] at hil
    by_cases he : i = th
    · subst he
      refine .inr ⟨newA e n, 0, ?_, ?_, hthe, ?_, ?_⟩
      · show (h.out ++ [newA e n])[updN h.last e.th h.out.length (i : Int)]? = _
        rw [uEq, List.getElem?_append_right (Nat.le_refl _), Nat.sub_self]; rfl
      · show (h.owned ++ [0])[updN h.last e.th h.out.length (i : Int)]? = _
        rw [uEq, ← hi.len, List.getElem?_append_right (Nat.le_refl _), Nat.sub_self]; rfl
      · intro m c hm hc
        have hm' : updN h.last e.th h.out.length (i : Int) < m := hm
        rw [uEq] at hm'
        have hc_ := getElem?_snoc_cases hc; clear hc
        rcases hc_ with ⟨rfl, rfl⟩ | ⟨hk, hc⟩ <;> omega
      · rw [gEq, ht']
        refine ⟨?_, rfl, fun _ => ⟨rfl, rfl, htx.symm⟩, fun h => ?_, fun h => ?_, fun h => ?_, fun h => ?_⟩
        · show (0 : Int) = cntb 0
          rw [(cntb_zero (m := 0) (by decide)).2 rfl]; rfl
        · dsimp only at h; omega
        · dsimp only at h; omega
        · dsimp only at h; omega
        · dsimp only at h; omega
    · rw [gNe i he]
      rcases hi.thr i hil with ⟨h1, h2⟩ | ⟨b, o, h1, h2, h3, h4, h5⟩
      · refine .inl ⟨fun m c hc => ?_, h2⟩
        have hc_ := getElem?_snoc_cases hc; clear hc
        rcases hc_ with ⟨rfl, rfl⟩ | ⟨hk, hc⟩
        · show e.th ≠ _; omega
        · exact h1 _ _ hc
      · have hbl := (List.getElem?_eq_some_iff.1 h1).1
        refine .inr ⟨b, o, ?_, ?_, h3, fun m c hm hc => ?_, h5⟩
        · show (h.out ++ [newA e n])[updN h.last e.th h.out.length (i : Int)]? = _
          rw [uNe i he, List.getElem?_append_left hbl]; exact h1
        · show (h.owned ++ [0])[updN h.last e.th h.out.length (i : Int)]? = _
          rw [uNe i he, List.getElem?_append_left (by rw [hi.len]; exact hbl)]; exact h2
        · have hm' : updN h.last e.th h.out.length (i : Int) < m := hm
          rw [uNe i he] at hm'
          have hc_ := getElem?_snoc_cases hc; clear hc
          rcases hc_ with ⟨rfl, rfl⟩ | ⟨hk, hc⟩
          · show e.th ≠ _; omega
          · exact h4 _ _ hm' hc
  · intro i hil h4
    rw [hT] at hil
    by_cases he : i = th
    · subst he
      rw [gEq, ht'] at h4
      dsimp only at h4
      omega
    · rw [gNe i he] at h4 ⊢
      obtain ⟨g1, g2, g3⟩ := hi.pend i hil h4
      refine ⟨g1, fun k b hb => ?_, fun j hj hji hj4 => ?_⟩
      · have hb_ := getElem?_snoc_cases hb; clear hb
        rcases hb_ with ⟨rfl, rfl⟩ | ⟨hk, hb⟩
        · show (0 : Int) ≠ _
          exact fun e => g1.1 e.symm
        · exact g2 _ _ hb
      · rw [hT] at hj
        by_cases hj2 : j = th
        · subst hj2
          rw [gEq, ht'] at hj4
          dsimp only at hj4
          omega
        · rw [gNe j hj2] at hj4 ⊢
          exact g3 j hj hji hj4
/-- A Wake. -/
theorem HI.wake {s s' : Sh} {h : HS} {n : Int} (hi : HI s h n) {th : Nat} {t' : Th} (hlt : th < s.ths.length) (hths : s'.ths = s.ths.set th t') (hclk : s'.clock = s.clock) (hv : s'.vars = s.vars)
    (h8 : (s.ths.getD th Th.zero).at_ = 8) (ht' : t' = { s.ths.getD th Th.zero with at_ := 0 }) : HI s' h (n + 1) := by
  have hT : s'.ths.length = s.ths.length := by rw [hths, List.length_set]
  have gEq : s'.ths.getD th Th.zero = t' := by rw [hths]; exact getD_set_eq _ _ _ _ hlt
  have gNe : ∀ i, i ≠ th → s'.ths.getD i Th.zero = s.ths.getD i Th.zero := fun i hne => by rw [hths]; exact getD_set_ne _ _ _ _ _ (fun e => hne e.symm)
  refine ⟨hi.len, by have := hi.pos; omega, fun k b hb => ?_, hi.pair, hi.row, hi.row0, fun i hil => ?_, fun i hil h4 => ?_⟩
  · rw [hT, hv, hclk]; exact (hi.att _ _ hb).mono (Int.le_refl _) (by omega)
  · rw [hT] at hil
    by_cases he : i = th
    · subst he
      rcases hi.thr i hil with ⟨_, h2, _⟩ | ⟨b, o, h1, h2, h3, h4, h5⟩
      · omega
      · obtain ⟨q1, q2, q3⟩ := h5.stop (.inl h8)
        refine .inr ⟨b, o, h1, h2, h3, h4, ?_⟩
        rw [gEq, ht']
        refine ⟨h5.o, h5.rv, fun h => ?_, fun h => ?_, fun h => ?_, fun _ => ⟨q1, by rw [q2]; show (s.ths.getD i Th.zero).commits = _; rw [q3]; simp⟩, fun h => ?_⟩
        · dsimp only at h; omega
        · dsimp only at h; omega
        · dsimp only at h; omega
        · dsimp only at h; omega
    · rw [gNe i he]; exact hi.thr i hil
  · rw [hT] at hil
    by_cases he : i = th
    · subst he
      rw [gEq, ht'] at h4
      dsimp only at h4
      omega
    · rw [gNe i he] at h4 ⊢
      obtain ⟨g1, g2, g3⟩ := hi.pend i hil h4
      refine ⟨g1, g2, fun j hj hji hj4 => ?_⟩
      rw [hT] at hj
      by_cases hj2 : j = th
      · subst hj2
        rw [gEq, ht'] at hj4
        dsimp only at hj4
        omega
      · rw [gNe j hj2] at hj4 ⊢
        exact g3 j hj hji hj4
end Go.Proofs.YtnmbacleaijhmaaDoor
/-
  The checker's machine: where a thread may go, what is to come of its attempt, and that versions rise. Nothing of the program.
-/
namespace Go.Proofs.YtnmbacleaijhmaaDoor
set_option linter.unusedVariables false

/-- Where an event takes its thread. -/
def Moves (k a b : Int) : Prop :=
  (k = 1 ∧ a = 0 ∧ b = 1) ∨ (k = 2 ∧ a = 1 ∧ b = 2) ∨ (k = 3 ∧ a = 2 ∧ b = 1) ∨ (k = 4 ∧ (a = 1 ∨ a = 3) ∧ b = 3) ∨ (k = 5 ∧ a = 3 ∧ b = 4) ∨ (k = 6 ∧ a = 4 ∧ b = 4) ∨
  (k = 7 ∧ ((a = 1 ∧ b = 0) ∨ (a = 4 ∧ b = 5))) ∨ (k = 8 ∧ a = 5 ∧ b = 5) ∨ (k = 9 ∧ (a = 5 ∨ a = 6) ∧ (b = 0 ∨ b = 6)) ∨ (k = 10 ∧ 1 ≤ a ∧ a ≤ 4 ∧ (b = 0 ∨ b = 7)) ∨
  (k = 11 ∧ a = 7 ∧ (b = 7 ∨ b = 0 ∨ b = 9)) ∨ (k = 12 ∧ a = 1 ∧ b = 8) ∨ (k = 13 ∧ a = 8 ∧ b = 0)
theorem fits_at {s : Sh} {t : Th} {e : Ev} (h : fitsS s t e = true) : 1 ≤ t.at_ ∧ t.at_ ≤ 4 := by
  unfold fitsS at h
  split at h
  · simp only [Bool.and_eq_true, decide_eq_true_eq] at h; omega
  split at h
  · simp only [decide_eq_true_eq] at h; omega
  split at h
  · simp only [decide_eq_true_eq] at h; omega
  split at h
  · simp only [Bool.and_eq_true, decide_eq_true_eq] at h; omega
  split at h
  · simp only [Bool.and_eq_true, decide_eq_true_eq] at h; omega
  split at h
  · simp only [decide_eq_true_eq] at h; omega
  · cases h

theorem at_step {s s' : Sh} {e : Ev} (hw : Wf s) (h : stepS s e = some s') : ∃ (th : Nat) (t' : Th), e.th = (th : Int) ∧ th < s.ths.length ∧ s'.ths = s.ths.set th t' ∧ s'.vars = s.vars ∧ s'.sts.length = s.sts.length ∧
    Moves e.kind (s.ths.getD th Th.zero).at_ t'.at_ ∧ (e.kind ≠ 7 → e.kind ≠ 9 → t'.commits = (s.ths.getD th Th.zero).commits) ∧ s.clock ≤ s'.clock := by
  obtain ⟨th, hthe, htn, hlt, hm, hk, hat, hatS, hmod, hv, hd⟩ := stepS_inv hw h
  have R : ∀ (q : Sh) (t' : Th), q.ths = s.ths → (q.setTh e.th t').ths = s.ths.set th t' := by intro q t' h1; simp only [Sh.setTh, h1, htn]
  refine ⟨th, ?_⟩
  generalize s.ths.getD th Th.zero = t at hd ⊢
  unfold doesS at hd
  by_cases k1 : e.kind = 1
  · rw [if_pos k1] at hd
    unfold beginS at hd; split at hd
    case isFalse => cases hd
    rename_i hc
    cases hd
    exact ⟨_, hthe, hlt, R _ _ rfl, rfl, rfl, Or.inl ⟨k1, hc.1, rfl⟩, fun _ _ => rfl, hc.2.2⟩
  rw [if_neg k1] at hd
  by_cases k2 : e.kind = 2
  · rw [if_pos k2] at hd
    unfold lookS at hd; split at hd
    case isFalse => cases hd
    rename_i hc
    cases hd
    exact ⟨_, hthe, hlt, R _ _ rfl, rfl, by simp [Sh.setTh, Sh.setSt], Or.inr (Or.inl ⟨k2, hc.1, rfl⟩), fun _ _ => rfl, Int.le_refl _⟩
  rw [if_neg k2] at hd
  by_cases k3 : e.kind = 3
  · rw [if_pos k3] at hd
    unfold loadS at hd; split at hd
    case isFalse => cases hd
    rename_i hc
    cases hd
    exact ⟨_, hthe, hlt, R _ _ rfl, rfl, rfl, Or.inr (Or.inr (Or.inl ⟨k3, hc.1, rfl⟩)), fun _ _ => rfl, Int.le_refl _⟩
  rw [if_neg k3] at hd
  by_cases k4 : e.kind = 4
  · rw [if_pos k4] at hd
    unfold lockS at hd; split at hd
    case isFalse => cases hd
    rename_i hc
    cases hd
    exact ⟨_, hthe, hlt, R _ _ rfl, rfl, by simp [Sh.setTh, Sh.setSt], Or.inr (Or.inr (Or.inr (Or.inl ⟨k4, hc.1, rfl⟩))), fun _ _ => rfl, Int.le_refl _⟩
  rw [if_neg k4] at hd
  by_cases k5 : e.kind = 5
  · rw [if_pos k5] at hd
    unfold bumpS at hd; split at hd
    case isFalse => cases hd
    rename_i hc
    cases hd
    exact ⟨_, hthe, hlt, R { s with clock := e.v } _ rfl, rfl, rfl, Or.inr (Or.inr (Or.inr (Or.inr (Or.inl ⟨k5, hc.1, rfl⟩)))), fun _ _ => rfl, Int.le_of_lt hc.2⟩
  rw [if_neg k5] at hd
  by_cases k6 : e.kind = 6
  · rw [if_pos k6] at hd
    unfold checkS at hd; split at hd
    case isFalse => cases hd
    rename_i hc
    cases hd
    exact ⟨_, hthe, hlt, R _ _ rfl, rfl, rfl, Or.inr (Or.inr (Or.inr (Or.inr (Or.inr (Or.inl ⟨k6, hc.1, hc.1⟩))))), fun _ _ => rfl, Int.le_refl _⟩
  rw [if_neg k6] at hd
  by_cases k7 : e.kind = 7
  · rw [if_pos k7] at hd
    unfold commitS at hd; split at hd
    · rename_i hc
      cases hd
      exact ⟨_, hthe, hlt, R _ _ rfl, rfl, rfl, Or.inr (Or.inr (Or.inr (Or.inr (Or.inr (Or.inr (Or.inl ⟨k7, Or.inl ⟨hc.2, rfl⟩⟩)))))), fun h7 => absurd k7 h7, Int.le_refl _⟩
    split at hd
    · rename_i hc
      cases hd
      exact ⟨_, hthe, hlt, R _ _ rfl, rfl, rfl, Or.inr (Or.inr (Or.inr (Or.inr (Or.inr (Or.inr (Or.inl ⟨k7, Or.inr ⟨hc.2.1, rfl⟩⟩)))))), fun h7 => absurd k7 h7, Int.le_refl _⟩
    cases hd
  rw [if_neg k7] at hd
  by_cases k8 : e.kind = 8
  · rw [if_pos k8] at hd
    unfold storeS at hd; split at hd
    case isFalse => cases hd
    rename_i hc
    cases hd
    exact ⟨_, hthe, hlt, R _ _ rfl, rfl, rfl, Or.inr (Or.inr (Or.inr (Or.inr (Or.inr (Or.inr (Or.inr (Or.inl ⟨k8, hc.1, hc.1⟩))))))), fun _ _ => rfl, Int.le_refl _⟩
  rw [if_neg k8] at hd
  by_cases k9 : e.kind = 9
  · rw [if_pos k9] at hd
    unfold freedS at hd; split at hd
    case isFalse => cases hd
    rename_i hc
    cases hd
    exact ⟨_, hthe, hlt, R _ _ rfl, rfl, by simp [Sh.setTh, Sh.setSt], Or.inr (Or.inr (Or.inr (Or.inr (Or.inr (Or.inr (Or.inr (Or.inr (Or.inl ⟨k9, by omega, by split; exact Or.inl rfl; exact Or.inr rfl⟩)))))))), fun _ h9 => absurd k9 h9, Int.le_refl _⟩
  rw [if_neg k9] at hd
  by_cases k10 : e.kind = 10
  · rw [if_pos k10] at hd
    unfold abortS at hd; split at hd
    case isFalse => cases hd
    rename_i hc
    cases hd
    have := fits_at hc
    exact ⟨_, hthe, hlt, R _ _ rfl, rfl, rfl, Or.inr (Or.inr (Or.inr (Or.inr (Or.inr (Or.inr (Or.inr (Or.inr (Or.inr (Or.inl ⟨k10, this.1, this.2, by simp only; split; exact Or.inl rfl; exact Or.inr rfl⟩))))))))), fun _ _ => rfl, Int.le_refl _⟩
  rw [if_neg k10] at hd
  by_cases k11 : e.kind = 11
  · rw [if_pos k11] at hd
    unfold undoS at hd; split at hd
    case isFalse => cases hd
    rename_i hc
    cases hd
    exact ⟨_, hthe, hlt, R _ _ rfl, rfl, by simp [Sh.setTh, Sh.setSt], Or.inr (Or.inr (Or.inr (Or.inr (Or.inr (Or.inr (Or.inr (Or.inr (Or.inr (Or.inr (Or.inl ⟨k11, hc.1, by simp only; (repeat' split) <;> simp⟩)))))))))), fun _ _ => rfl, Int.le_refl _⟩
  rw [if_neg k11] at hd
  by_cases k12 : e.kind = 12
  · rw [if_pos k12] at hd
    unfold waitS at hd; split at hd
    case isFalse => cases hd
    rename_i hc
    cases hd
    exact ⟨_, hthe, hlt, R _ _ rfl, rfl, rfl, Or.inr (Or.inr (Or.inr (Or.inr (Or.inr (Or.inr (Or.inr (Or.inr (Or.inr (Or.inr (Or.inr (Or.inl ⟨k12, hc, rfl⟩))))))))))), fun _ _ => rfl, Int.le_refl _⟩
  rw [if_neg k12] at hd
  unfold wakeS at hd; split at hd
  case isFalse => cases hd
  rename_i hc
  cases hd
  exact ⟨_, hthe, hlt, R _ _ rfl, rfl, rfl, Or.inr (Or.inr (Or.inr (Or.inr (Or.inr (Or.inr (Or.inr (Or.inr (Or.inr (Or.inr (Or.inr (Or.inr (⟨by omega, hc.1, rfl⟩)))))))))))), fun _ _ => rfl, Int.le_refl _⟩

/-- Does what is to come abort the thread's attempt, or end it in a wait? -/
def goneR (th : Int) : List Ev → Bool
  | [] => false
  | e :: l => if e.th = th ∧ (e.kind = 1 ∨ e.kind = 10 ∨ e.kind = 12) then decide (e.kind ≠ 1) else goneR th l
theorem goneR_cons (th : Int) (e : Ev) (l : List Ev) : goneR th (e :: l) = if e.th = th ∧ (e.kind = 1 ∨ e.kind = 10 ∨ e.kind = 12) then decide (e.kind ≠ 1) else goneR th l := rfl
theorem goneR_other {th : Int} {e : Ev} {l : List Ev} (h : e.th ≠ th) : goneR th (e :: l) = goneR th l := by rw [goneR_cons, if_neg (by intro h'; exact h h'.1)]
theorem goneR_mid {th : Int} {e : Ev} {l : List Ev} (h1 : e.kind ≠ 1) (h10 : e.kind ≠ 10) (h12 : e.kind ≠ 12) : goneR th (e :: l) = goneR th l := by rw [goneR_cons, if_neg (by omega)]
theorem goneR_yes {th : Int} {e : Ev} {l : List Ev} (h : e.th = th) (hk : e.kind = 10 ∨ e.kind = 12) : goneR th (e :: l) = true := by
  rw [goneR_cons, if_pos ⟨h, by omega⟩, decide_eq_true_eq]; omega
theorem goneR_begin {th : Int} {e : Ev} {l : List Ev} (h : e.th = th) (hk : e.kind = 1) : goneR th (e :: l) = false := by
  rw [goneR_cons, if_pos ⟨h, by omega⟩, decide_eq_false_iff_not]; omega
/-- Who has committed, or is in no attempt, is not gone. -/
theorem goneR_no : ∀ (l : List Ev) {s s' : Sh} {i : Nat}, Wf s → runS s l = some s' → i < s.ths.length → ((s.ths.getD i Th.zero).at_ = 0 ∨ (s.ths.getD i Th.zero).at_ = 5 ∨ (s.ths.getD i Th.zero).at_ = 6) → goneR i l = false
  | [], _, _, _, _, _, _, _ => rfl
  | e :: l, s, s', i, hw, h, hi, ha => by
    unfold runS at h
    cases hs : stepS s e with
    | none => rw [hs] at h; cases h
    | some r =>
      rw [hs] at h
      obtain ⟨th, t', e1, e2, e3, -, -, hm, -⟩ := at_step hw hs
      have hw' := stepS_wf hw hs
      have hlen : r.ths.length = s.ths.length := by rw [e3, List.length_set]
      by_cases hti : th = i
      · subst hti
        by_cases k1 : e.kind = 1
        · exact goneR_begin e1 k1
        · unfold Moves at hm
          rw [goneR_mid k1 (by omega) (by omega)]
          refine goneR_no l hw' h (by omega) ?_
          rw [e3, getD_set_eq _ _ _ _ e2]
          omega
      · rw [goneR_other (by omega)]
        refine goneR_no l hw' h (by omega) ?_
        rw [e3, getD_set_ne _ _ _ _ _ hti]; exact ha
/-- The flags: whose attempt is of those that go. -/
def FlagS (s : Sh) (f : Nat → Bool) (l : List Ev) : Prop :=
  ∀ i, i < s.ths.length → (f i = false → goneR i l = false ∧ (s.ths.getD i Th.zero).at_ ≤ 6) ∧
    (f i = true → (1 ≤ (s.ths.getD i Th.zero).at_ → (s.ths.getD i Th.zero).at_ ≤ 4 → goneR i l = true) ∧ (s.ths.getD i Th.zero).at_ ≠ 5 ∧ (s.ths.getD i Th.zero).at_ ≠ 6)
def nextF (f : Nat → Bool) (e : Ev) (l : List Ev) : Nat → Bool := fun i => if e.kind = 1 ∧ e.th = (i : Int) then goneR i l else f i
theorem nextF_same {f : Nat → Bool} {e : Ev} {l : List Ev} (h : e.kind ≠ 1) : nextF f e l = f := by funext i; unfold nextF; rw [if_neg (by intro h'; exact h h'.1)]
theorem nextF_ne {f : Nat → Bool} {e : Ev} {l : List Ev} {i : Nat} (h : e.th ≠ (i : Int)) : nextF f e l i = f i := by unfold nextF; rw [if_neg (by intro h'; exact h h'.2)]
theorem FlagS.step {s r s' : Sh} {f : Nat → Bool} {e : Ev} {l : List Ev} (hw : Wf s) (hf : FlagS s f (e :: l)) (hs : stepS s e = some r) (h : runS r l = some s') :
    FlagS r (nextF f e l) l ∧ (nextF f e l e.th.toNat = false → e.kind ≠ 10 ∧ e.kind ≠ 11 ∧ e.kind ≠ 12 ∧ e.kind ≠ 13) ∧ (nextF f e l e.th.toNat = true → e.kind ≠ 7 ∧ e.kind ≠ 8 ∧ e.kind ≠ 9) := by
  obtain ⟨th, t', e1, e2, e3, -, -, hm, -⟩ := at_step hw hs
  have hw' := stepS_wf hw hs
  have hlen : r.ths.length = s.ths.length := by rw [e3, List.length_set]
  have htn : e.th.toNat = th := by omega
  obtain ⟨h1, h2⟩ := hf th e2
  have hno := fun (hx : t'.at_ = 0 ∨ t'.at_ = 5 ∨ t'.at_ = 6) => goneR_no l (i := th) hw' h (by omega) (by rw [e3, getD_set_eq _ _ _ _ e2]; exact hx)
  rw [htn]
  -- the thread's own flag
  have key : ((nextF f e l th = false → goneR th l = false ∧ t'.at_ ≤ 6) ∧ (nextF f e l th = true → (1 ≤ t'.at_ → t'.at_ ≤ 4 → goneR th l = true) ∧ t'.at_ ≠ 5 ∧ t'.at_ ≠ 6)) ∧
      (nextF f e l th = false → e.kind ≠ 10 ∧ e.kind ≠ 11 ∧ e.kind ≠ 12 ∧ e.kind ≠ 13) ∧ (nextF f e l th = true → e.kind ≠ 7 ∧ e.kind ≠ 8 ∧ e.kind ≠ 9) := by
    by_cases k1 : e.kind = 1
    · have hn : nextF f e l th = goneR th l := by unfold nextF; rw [if_pos ⟨k1, e1⟩]
      rw [hn]
      unfold Moves at hm
      refine ⟨⟨fun hx => ⟨hx, by omega⟩, fun hx => ⟨fun _ _ => hx, by omega, by omega⟩⟩, fun _ => by omega, fun _ => by omega⟩
    · rw [nextF_same k1]
      cases hfi : f th with
      | false =>
        obtain ⟨a1, a2⟩ := h1 hfi
        have k10 : e.kind ≠ 10 := by intro hk; rw [goneR_yes e1 (Or.inl hk)] at a1; cases a1
        have k12 : e.kind ≠ 12 := by intro hk; rw [goneR_yes e1 (Or.inr hk)] at a1; cases a1
        rw [goneR_mid k1 k10 k12] at a1
        unfold Moves at hm
        refine ⟨⟨fun _ => ⟨a1, by omega⟩, by simp⟩, fun _ => by omega, by simp⟩
      | true =>
        obtain ⟨a1, a2, a3⟩ := h2 hfi
        unfold Moves at hm
        by_cases k7 : e.kind = 7
        · have := a1 (by omega) (by omega)
          rw [goneR_mid k1 (by omega) (by omega)] at this
          rw [hno (by omega)] at this; cases this
        · refine ⟨⟨by simp, fun _ => ⟨fun b1 b2 => ?_, by omega, by omega⟩⟩, by simp, fun _ => by omega⟩
          have := a1 (by omega) (by omega)
          rwa [goneR_mid k1 (by omega) (by omega)] at this
  refine ⟨fun i hi => ?_, key.2.1, key.2.2⟩
  rw [hlen] at hi
  by_cases hti : th = i
  · subst hti
    rw [e3, getD_set_eq _ _ _ _ e2]
    exact key.1
  · rw [e3, getD_set_ne _ _ _ _ _ hti, nextF_ne (by omega)]
    have := hf i hi
    rwa [goneR_other (by omega)] at this
end Go.Proofs.YtnmbacleaijhmaaDoor
/-
  Attempts beside the checker's machine: each event keeps what holds. Nothing of the program.
-/
namespace Go.Proofs.YtnmbacleaijhmaaDoor
set_option linter.unusedVariables false
set_option linter.unusedSimpArgs false
set_option linter.unusedVariables false
theorem getD_of_get? {α : Type} {l : List α} {k : Nat} {x d : α} (h : l[k]? = some x) : l.getD k d = x := by
  rw [List.getD_eq_getElem?_getD, h]; rfl
theorem hi_new (T V S : Int) : HI (newS T V S) newH 0 := by
  refine ⟨rfl, Int.le_refl _, fun k a h => ?_, fun j k a b _ h => ?_, fun j k a b _ h => ?_, fun k b h => ?_, fun i hi => .inl ⟨fun m c h => ?_, ?_, ?_⟩, fun i hi h4 => ?_⟩
  · simp [newH] at h
  · simp [newH] at h
  · simp [newH] at h
  · simp [newH] at h
  · simp [newH] at h
  · have : (newS T V S).ths.getD i Th.zero = Th.zero := by
      simp only [newS, List.getD_eq_getElem?_getD]
      rw [List.getElem?_replicate]; split <;> rfl
    rw [this]; rfl
  · have : (newS T V S).ths.getD i Th.zero = Th.zero := by
      simp only [newS, List.getD_eq_getElem?_getD]
      rw [List.getElem?_replicate]; split <;> rfl
    rw [this]; rfl
  · have : (newS T V S).ths.getD i Th.zero = Th.zero := by
      simp only [newS, List.getD_eq_getElem?_getD]
      rw [List.getElem?_replicate]; split <;> rfl
    rw [this] at h4
    exact absurd h4 (by decide)
/-- What the attempt of an event (no Begin, no Wake) is. -/
theorem HI.mine {s : Sh} {h : HS} {n : Int} (hi : HI s h n) {th : Nat} (hlt : th < s.ths.length) (h0 : (s.ths.getD th Th.zero).at_ ≠ 0) :
    ∃ a o, h.out[h.last th]? = some a ∧ h.owned[h.last th]? = some o ∧ a.th = (th : Int) ∧ (∀ (m : Nat) (c : Att), h.last th < m → h.out[m]? = some c → c.th ≠ (th : Int)) ∧ HT (s.ths.getD th Th.zero) a o := by
  rcases hi.thr th hlt with ⟨_, h1, _⟩ | h
  · exact absurd h1 h0
  · exact h
theorem stepH_mid {h : HS} {n : Int} {e : Ev} {th : Nat} {a : Att} {o : Int} (hthe : e.th = (th : Int)) (k1 : e.kind ≠ 1) (k13 : e.kind ≠ 13) (ha : h.out[h.last th]? = some a) (ho : h.owned[h.last th]? = some o) :
    stepH h n e = ⟨h.last, h.out.set (h.last th) (turnA a o e n), h.owned.set (h.last th) (turnO o e)⟩ := by
  unfold stepH
  rw [if_neg k1, if_neg k13, hthe, getD_of_get? ha, getD_of_get? ho]
theorem hi_step {s s' : Sh} {h : HS} {n : Int} {e : Ev} (hw : Wf s) (hi : HI s h n) (hs : stepS s e = some s') : HI s' (stepH h n e) (n + 1) := by
  obtain ⟨th, hthe, htn, hlt, hm, hk, hat, hatS, hmod, hv, hd⟩ := stepS_inv hw hs
  have R : ∀ (q : Sh) (t' : Th), q.ths = s.ths → (q.setTh e.th t').ths = s.ths.set th t' := by intro q t' h1; simp only [Sh.setTh, h1, htn]
  have wt := hw.th th hlt
  have wvs : ∀ i, i < s.ths.length → (s.ths.getD i Th.zero).wv ≤ s.clock := fun i hi => (hw.th i hi).wvb.2
  have hrv := wt.rvb.2
  have hc0 := hw.clk.1
  have hn0 := hi.pos
  have hsz := hw.size
  have hsn : s.n = s.sts.length := rfl
  have mine := fun h0 => hi.mine (th := th) hlt h0
  have hpd := hi.pend th hlt
  have turn := fun {s' : Sh} {t' : Th} {a a' : Att} {o' : Int} => hi.turn (s' := s') (t' := t') (a := a) (a' := a') (o' := o') hlt
  obtain ⟨t, ht⟩ : ∃ t, t = s.ths.getD th Th.zero := ⟨_, rfl⟩
  rw [← ht] at hd wt hrv mine hpd turn
  unfold doesS at hd
  by_cases k1 : e.kind = 1
  · rw [if_pos k1] at hd
    unfold beginS at hd; split at hd
    case isFalse => cases hd
    rename_i hc
    cases hd
    unfold stepH
    rw [if_pos k1]
    exact hi.begin hthe hlt (R _ _ rfl) rfl hc.2.2 hc0 rfl (by rw [← ht]; exact hc.1) (by rw [← ht]; exact hc.2.1) (mayE_of hm).2.2.1.1 (by rw [← ht])
  rw [if_neg k1] at hd
  by_cases k2 : e.kind = 2
  · rw [if_pos k2] at hd
    unfold lookS at hd; split at hd
    case isFalse => cases hd
    rename_i hc
    cases hd
    obtain ⟨a, o, h1, h2, h3, h4, h5⟩ := mine (by omega)
    have hA : turnA a o e n = a := by unfold turnA; rw [if_neg (by omega), if_neg (by omega), if_neg (by omega), if_neg (by omega), if_neg (by omega), if_neg (by omega)]
    have hO : turnO o e = o := by unfold turnO; rw [if_neg (by omega), if_neg (by omega)]
    rw [stepH_mid hthe k1 (by omega) h1 h2, hA, hO]
    have hr := h5.run (.inl hc.1)
    exact turn (R (s.setSt e.at_ (-1, e.v)) _ rfl) (Int.le_refl _) rfl h1 h3 h4 ⟨rfl, rfl, rfl, rfl⟩ ⟨hr.1, .inl hr.1⟩ (.inl rfl) ((hi.att _ _ h1).mono (Int.le_refl _) (by omega))
      ⟨h5.o, h5.rv, fun _ => hr, fun h => by dsimp only at h; omega, fun h => by dsimp only at h; omega, fun h => by dsimp only at h; omega, fun h => by dsimp only at h; omega⟩ (fun h => by dsimp only at h; omega) hrv hc0 wvs
  rw [if_neg k2] at hd
  by_cases k3 : e.kind = 3
  · rw [if_pos k3] at hd
    unfold loadS at hd; split at hd
    case isFalse => cases hd
    rename_i hc
    cases hd
    obtain ⟨a, o, h1, h2, h3, h4, h5⟩ := mine (by omega)
    have hA : turnA a o e n = { a with reads := a.reads ++ [(e.at_, e.x)] } := by unfold turnA; rw [if_pos k3]
    have hO : turnO o e = o := by unfold turnO; rw [if_neg (by omega), if_neg (by omega)]
    rw [stepH_mid hthe k1 (by omega) h1 h2, hA, hO]
    have hr := h5.run (.inr (.inl hc.1))
    have ok := (hi.att _ _ h1).mono (Int.le_refl s.clock) (show n ≤ n + 1 by omega)
    exact turn (R s _ rfl) (Int.le_refl _) rfl h1 h3 h4 ⟨rfl, rfl, rfl, rfl⟩ ⟨hr.1, .inl hr.1⟩ (.inl rfl)
      ⟨ok.th, ok.tx, ok.from_, ok.to_, ok.rv, ok.wv, ok.gt, ok.nc, ok.nw, fun p hp => by
        rcases List.mem_append.1 hp with hp | hp
        · exact ok.rds p hp
        · rw [List.mem_singleton] at hp; subst hp; exact ⟨hat.1, hat.2.1⟩, ok.wrs, ok.up⟩
      ⟨h5.o, h5.rv, fun _ => hr, fun h => by dsimp only at h; omega, fun h => by dsimp only at h; omega, fun h => by dsimp only at h; omega, fun h => by dsimp only at h; omega⟩ (fun h => by dsimp only at h; omega) hrv hc0 wvs
  rw [if_neg k3] at hd
  by_cases k4 : e.kind = 4
  · rw [if_pos k4] at hd
    unfold lockS at hd; split at hd
    case isFalse => cases hd
    rename_i hc
    cases hd
    obtain ⟨a, o, h1, h2, h3, h4, h5⟩ := mine (by omega)
    obtain ⟨b1, b2⟩ := hatS (by omega) (by omega)
    have hA : turnA a o e n = a := by unfold turnA; rw [if_neg (by omega), if_neg (by omega), if_neg (by omega), if_neg (by omega), if_neg (by omega), if_neg (by omega)]
    have hO : turnO o e = o + 1 := by unfold turnO; rw [if_pos k4]
    rw [stepH_mid hthe k1 (by omega) h1 h2, hA, hO]
    have hr := h5.run (by omega)
    have hbit : t.owned.testBit e.at_.toNat = false := by
      cases hb : t.owned.testBit e.at_.toNat with
      | false => rfl
      | true =>
        have := (wt.own _ hb).2
        have h' := hc.2.2
        rw [own_getD] at h'
        omega
    have hcnt := cntb_set hbit (by omega)
    exact turn (R (s.setSt e.at_ (e.th, s.ver e.at_)) _ rfl) (Int.le_refl _) rfl h1 h3 h4 ⟨rfl, rfl, rfl, rfl⟩ ⟨hr.1, .inl hr.1⟩ (.inl rfl) ((hi.att _ _ h1).mono (Int.le_refl _) (by omega))
      ⟨by have := h5.o; dsimp only; omega, h5.rv, fun _ => hr, fun h => by dsimp only at h; omega, fun h => by dsimp only at h; omega, fun h => by dsimp only at h; omega, fun h => by dsimp only at h; omega⟩ (fun h => by dsimp only at h; omega) hrv hc0 wvs
  rw [if_neg k4] at hd
  by_cases k5 : e.kind = 5
  · rw [if_pos k5] at hd
    unfold bumpS at hd; split at hd
    case isFalse => cases hd
    rename_i hc
    cases hd
    obtain ⟨a, o, h1, h2, h3, h4, h5⟩ := mine (by omega)
    have hA : turnA a o e n = a := by unfold turnA; rw [if_neg (by omega), if_neg (by omega), if_neg (by omega), if_neg (by omega), if_neg (by omega), if_neg (by omega)]
    have hO : turnO o e = o := by unfold turnO; rw [if_neg (by omega), if_neg (by omega)]
    rw [stepH_mid hthe k1 (by omega) h1 h2, hA, hO]
    have hr := h5.run (by omega)
    exact turn (R { s with clock := e.v } _ rfl) (Int.le_of_lt hc.2) rfl h1 h3 h4 ⟨rfl, rfl, rfl, rfl⟩ ⟨hr.1, .inl hr.1⟩ (.inl rfl) ((hi.att _ _ h1).mono (Int.le_of_lt hc.2) (by omega))
      ⟨h5.o, h5.rv, fun _ => hr, fun h => by dsimp only at h; omega, fun h => by dsimp only at h; omega, fun h => by dsimp only at h; omega, fun h => by dsimp only at h; omega⟩ (fun _ => ⟨rfl, .inr hc.2⟩) hrv hc0 wvs
  rw [if_neg k5] at hd
  by_cases k6 : e.kind = 6
  · rw [if_pos k6] at hd
    unfold checkS at hd; split at hd
    case isFalse => cases hd
    rename_i hc
    cases hd
    obtain ⟨a, o, h1, h2, h3, h4, h5⟩ := mine (by omega)
    have hA : turnA a o e n = a := by unfold turnA; rw [if_neg (by omega), if_neg (by omega), if_neg (by omega), if_neg (by omega), if_neg (by omega), if_neg (by omega)]
    have hO : turnO o e = o := by unfold turnO; rw [if_neg (by omega), if_neg (by omega)]
    rw [stepH_mid hthe k1 (by omega) h1 h2, hA, hO]
    have hr := h5.run (by omega)
    exact turn (R s _ rfl) (Int.le_refl _) rfl h1 h3 h4 ⟨rfl, rfl, rfl, rfl⟩ ⟨hr.1, .inl hr.1⟩ (.inl rfl) ((hi.att _ _ h1).mono (Int.le_refl _) (by omega))
      ⟨h5.o, h5.rv, fun _ => hr, fun h => by have := hc.1; dsimp only at h; omega, fun h => by have := hc.1; dsimp only at h; omega, fun h => by have := hc.1; dsimp only at h; omega, fun h => by have := hc.1; dsimp only at h; omega⟩ (fun _ => ⟨rfl, .inl ⟨hc.1, rfl⟩⟩) hrv hc0 wvs
  rw [if_neg k6] at hd
  by_cases k7 : e.kind = 7
  · rw [if_pos k7] at hd
    have hA : ∀ a o, turnA a o e n = { a with com := true, wv := e.v, to_ := if o = 0 then n else a.to_ } := fun a o => by unfold turnA; rw [if_neg (by omega), if_neg (by omega), if_pos k7]
    have hO : ∀ o, turnO o e = o := fun o => by unfold turnO; rw [if_neg (by omega), if_neg (by omega)]
    unfold commitS at hd; split at hd
    · rename_i hc
      cases hd
      obtain ⟨a, o, h1, h2, h3, h4, h5⟩ := mine (by omega)
      rw [stepH_mid hthe k1 (by omega) h1 h2, hA, hO]
      have hr := h5.run (by omega)
      have ho : o = 0 := by rw [h5.o, wt.idle (by omega), (cntb_zero (m := 0) (by decide)).2 rfl]; rfl
      rw [if_pos ho, hc.1]
      have ok := (hi.att _ _ h1).mono (Int.le_refl s.clock) (show n ≤ n + 1 by omega)
      have hwv := ok.nc hr.2.1
      have hfr := (hi.att _ _ h1).from_
      exact turn (R s _ rfl) (Int.le_refl _) rfl h1 h3 h4 ⟨rfl, rfl, rfl, rfl⟩ ⟨hr.1, .inr rfl⟩ (.inl hwv.symm)
        ⟨ok.th, ok.tx, ok.from_, .inr ⟨by dsimp only; omega, by dsimp only; omega⟩, ok.rv, ⟨Int.le_refl _, hc0⟩, fun h => absurd rfl h, fun _ => rfl, fun _ => ok.nw hwv, ok.rds, ok.wrs, ok.up⟩
        ⟨h5.o, h5.rv, fun h => by dsimp only at h; omega, fun h => by dsimp only at h; omega, fun h => by dsimp only at h; omega, fun _ => ⟨by dsimp only; omega, by dsimp only; rw [if_pos rfl, hr.2.2]⟩, fun h => by dsimp only at h; omega⟩ (fun h => by dsimp only at h; omega) hrv hc0 wvs
    · split at hd
      case isFalse => cases hd
      rename_i hc
      cases hd
      obtain ⟨a, o, h1, h2, h3, h4, h5⟩ := mine (by omega)
      rw [stepH_mid hthe k1 (by omega) h1 h2, hA, hO]
      have hr := h5.run (by omega)
      have ho : o ≠ 0 := by
        intro e0
        have := h5.o
        rw [e0] at this
        exact wt.busy (by omega) ((cntb_zero wt.m2).1 (by omega))
      rw [if_neg ho]
      have ok := (hi.att _ _ h1).mono (Int.le_refl s.clock) (show n ≤ n + 1 by omega)
      have hwv := ok.nc hr.2.1
      have hp4 := hpd (by omega)
      have hwb := wt.wvb
      have hrr := h5.rv
      exact turn (R s _ rfl) (Int.le_refl _) rfl h1 h3 h4 ⟨rfl, rfl, rfl, rfl⟩ ⟨hr.1, .inl hr.1⟩ (.inr ⟨by omega, hc.2.2.2, by dsimp only; omega⟩)
        ⟨ok.th, ok.tx, ok.from_, ok.to_, ok.rv, ⟨by dsimp only; omega, by show e.v ≤ s.clock; omega⟩, (fun _ => by dsimp only; omega), (fun h => by cases h), fun h => absurd h hc.1, ok.rds, ok.wrs, ok.up⟩
        ⟨h5.o, h5.rv, fun h => by dsimp only at h; omega, fun _ => ⟨hr.1, rfl, hc.2.2.2, hc.1, hr.2.2⟩, fun _ p hp => by dsimp only at hp; rw [ok.nw hwv] at hp; exact absurd hp (List.not_mem_nil), fun h => by dsimp only at h; omega, fun h => by dsimp only at h; omega⟩ (fun h => by dsimp only at h; omega) hrv hc0 wvs
  rw [if_neg k7] at hd
  by_cases k8 : e.kind = 8
  · rw [if_pos k8] at hd
    unfold storeS at hd; split at hd
    case isFalse => cases hd
    rename_i hc
    cases hd
    obtain ⟨a, o, h1, h2, h3, h4, h5⟩ := mine (by omega)
    have hA : turnA a o e n = { a with writes := a.writes ++ [(e.at_, e.x)] } := by unfold turnA; rw [if_neg k3, if_pos k8]
    have hO : turnO o e = o := by unfold turnO; rw [if_neg (by omega), if_neg (by omega)]
    rw [stepH_mid hthe k1 (by omega) h1 h2, hA, hO]
    have hr := h5.put (.inl hc.1)
    have hvr := h5.var hc.1
    have ok := (hi.att _ _ h1).mono (Int.le_refl s.clock) (show n ≤ n + 1 by omega)
    exact turn (R s _ rfl) (Int.le_refl _) rfl h1 h3 h4 ⟨rfl, rfl, rfl, rfl⟩ ⟨hr.1, .inl hr.1⟩ (.inl rfl)
      ⟨ok.th, ok.tx, ok.from_, ok.to_, ok.rv, ok.wv, ok.gt, ok.nc, fun h => absurd h hr.2.2.2.1, ok.rds, fun p hp => by
        rcases List.mem_append.1 hp with hp | hp
        · exact ok.wrs p hp
        · rw [List.mem_singleton] at hp; subst hp; exact ⟨hat.1, hat.2.1⟩, by
        refine List.pairwise_append.2 ⟨ok.up, List.pairwise_singleton _ _, fun p hp q hq => ?_⟩
        rw [List.mem_singleton] at hq
        subst hq
        have := hvr p hp
        have := hc.2.1
        show p.1 < e.at_
        omega⟩
      ⟨h5.o, h5.rv, fun h => by have := hc.1; dsimp only at h; omega, fun _ => hr, fun _ p hp => by
        have := hc.2.1
        rcases List.mem_append.1 hp with hp | hp
        · have := hvr p hp; dsimp only; omega
        · rw [List.mem_singleton] at hp; subst hp; exact Int.le_refl _, fun h => by have := hc.1; dsimp only at h; omega, fun h => by have := hc.1; dsimp only at h; omega⟩ (fun h => by have := hc.1; dsimp only at h; omega) hrv hc0 wvs
  rw [if_neg k8] at hd
  by_cases k9 : e.kind = 9
  · rw [if_pos k9] at hd
    have hA : ∀ a o, turnA a o e n = { a with to_ := if o - 1 = 0 then n else a.to_ } := fun a o => by unfold turnA; rw [if_neg k3, if_neg k8, if_neg k7, if_pos (.inl k9)]
    have hO : ∀ o, turnO o e = o - 1 := fun o => by unfold turnO; rw [if_neg k4, if_pos (.inl k9)]
    unfold freedS at hd; split at hd
    case isFalse => cases hd
    rename_i hc
    cases hd
    obtain ⟨a, o, h1, h2, h3, h4, h5⟩ := mine (by omega)
    obtain ⟨b1, b2⟩ := hatS (by omega) (by omega)
    rw [stepH_mid hthe k1 (by omega) h1 h2, hA, hO]
    have hr := h5.put (by omega)
    have ok := (hi.att _ _ h1).mono (Int.le_refl s.clock) (show n ≤ n + 1 by omega)
    have hfr := (hi.att _ _ h1).from_
    have hl32 : e.at_.toNat = leastb t.owned := by have := hc.2; omega
    have hbit : t.owned.testBit e.at_.toNat = true := by rw [hl32]; exact leastb_some (by omega)
    have hcnt := cntb_clr hbit (by omega)
    have hoo := h5.o
    by_cases hz : clrb t.owned e.at_.toNat = 0
    · rw [if_pos hz]
      have ho : o - 1 = 0 := by rw [hz, (cntb_zero (m := 0) (by decide)).2 rfl] at hcnt; omega
      rw [if_pos ho]
      exact turn (R (s.setSt e.at_ (-1, t.wv)) _ rfl) (Int.le_refl _) rfl h1 h3 h4 ⟨rfl, rfl, rfl, rfl⟩ ⟨hr.1, .inr rfl⟩ (.inl rfl)
        ⟨ok.th, ok.tx, ok.from_, .inr ⟨by dsimp only; omega, by dsimp only; omega⟩, ok.rv, ok.wv, ok.gt, ok.nc, ok.nw, ok.rds, ok.wrs, ok.up⟩
        ⟨by dsimp only; omega, h5.rv, fun h => by dsimp only at h; omega, fun h => by dsimp only at h; omega, fun h => by dsimp only at h; omega, fun _ => ⟨by dsimp only; omega, by dsimp only; rw [if_pos hr.2.1, hr.2.2.2.2]⟩, fun h => by dsimp only at h; omega⟩ (fun h => by dsimp only at h; omega) hrv hc0 wvs
    · rw [if_neg hz]
      have ho : o - 1 ≠ 0 := fun e0 => hz ((cntb_zero (clrb_lt wt.m2)).1 (by omega))
      rw [if_neg ho]
      exact turn (R (s.setSt e.at_ (-1, t.wv)) _ rfl) (Int.le_refl _) rfl h1 h3 h4 ⟨rfl, rfl, rfl, rfl⟩ ⟨hr.1, .inl hr.1⟩ (.inl rfl) ok
        ⟨by dsimp only; omega, h5.rv, fun h => by dsimp only at h; omega, fun _ => hr, fun h => by dsimp only at h; omega, fun h => by dsimp only at h; omega, fun h => by dsimp only at h; omega⟩ (fun h => by dsimp only at h; omega) hrv hc0 wvs
  rw [if_neg k9] at hd
  by_cases k10 : e.kind = 10
  · rw [if_pos k10] at hd
    have hA : ∀ a o, turnA a o e n = { a with to_ := if o = 0 then n else a.to_ } := fun a o => by unfold turnA; rw [if_neg k3, if_neg k8, if_neg k7, if_neg (by omega), if_pos k10]
    have hO : ∀ o, turnO o e = o := fun o => by unfold turnO; rw [if_neg k4, if_neg (by omega)]
    unfold abortS at hd; split at hd
    case isFalse => cases hd
    rename_i hc
    cases hd
    have hfa := fits_at hc
    obtain ⟨a, o, h1, h2, h3, h4, h5⟩ := mine (by omega)
    rw [stepH_mid hthe k1 (by omega) h1 h2, hA, hO]
    have hr := h5.run (by omega)
    have ok := (hi.att _ _ h1).mono (Int.le_refl s.clock) (show n ≤ n + 1 by omega)
    have hfr := (hi.att _ _ h1).from_
    have hoo := h5.o
    by_cases hz : t.owned = 0
    · rw [if_pos hz]
      have ho : o = 0 := by rw [hz, (cntb_zero (m := 0) (by decide)).2 rfl] at hoo; omega
      rw [if_pos ho]
      exact turn (R s _ rfl) (Int.le_refl _) rfl h1 h3 h4 ⟨rfl, rfl, rfl, rfl⟩ ⟨hr.1, .inr rfl⟩ (.inl rfl)
        ⟨ok.th, ok.tx, ok.from_, .inr ⟨by dsimp only; omega, by dsimp only; omega⟩, ok.rv, ok.wv, ok.gt, ok.nc, ok.nw, ok.rds, ok.wrs, ok.up⟩
        ⟨hoo, h5.rv, fun h => by dsimp only at h; omega, fun h => by dsimp only at h; omega, fun h => by dsimp only at h; omega, fun _ => ⟨by dsimp only; omega, by dsimp only; rw [hr.2.1, hr.2.2]; simp⟩, fun h => by dsimp only at h; omega⟩ (fun h => by dsimp only at h; omega) hrv hc0 wvs
    · rw [if_neg hz]
      have ho : o ≠ 0 := fun e0 => hz ((cntb_zero wt.m2).1 (by omega))
      rw [if_neg ho]
      exact turn (R s _ rfl) (Int.le_refl _) rfl h1 h3 h4 ⟨rfl, rfl, rfl, rfl⟩ ⟨hr.1, .inl hr.1⟩ (.inl rfl) ok
        ⟨hoo, h5.rv, fun _ => hr, fun h => by dsimp only at h; omega, fun h => by dsimp only at h; omega, fun h => by dsimp only at h; omega, fun h => by dsimp only at h; omega⟩ (fun h => by dsimp only at h; omega) hrv hc0 wvs
  rw [if_neg k10] at hd
  by_cases k11 : e.kind = 11
  · rw [if_pos k11] at hd
    have hA : ∀ a o, turnA a o e n = { a with to_ := if o - 1 = 0 then n else a.to_ } := fun a o => by unfold turnA; rw [if_neg k3, if_neg k8, if_neg k7, if_pos (.inr k11)]
    have hO : ∀ o, turnO o e = o - 1 := fun o => by unfold turnO; rw [if_neg k4, if_pos (.inr k11)]
    unfold undoS at hd; split at hd
    case isFalse => cases hd
    rename_i hc
    cases hd
    obtain ⟨a, o, h1, h2, h3, h4, h5⟩ := mine (by omega)
    obtain ⟨b1, b2⟩ := hatS (by omega) (by omega)
    rw [stepH_mid hthe k1 (by omega) h1 h2, hA, hO]
    have hr := h5.run (by omega)
    have ok := (hi.att _ _ h1).mono (Int.le_refl s.clock) (show n ≤ n + 1 by omega)
    have hfr := (hi.att _ _ h1).from_
    have hl32 : e.at_.toNat = leastb t.owned := by have := hc.2; omega
    have hbit : t.owned.testBit e.at_.toNat = true := by rw [hl32]; exact leastb_some (by omega)
    have hcnt := cntb_clr hbit (by omega)
    have hoo := h5.o
    by_cases hz : clrb t.owned e.at_.toNat = 0
    · have ho : o - 1 = 0 := by rw [hz, (cntb_zero (m := 0) (by decide)).2 rfl] at hcnt; omega
      rw [if_pos ho]
      rw [if_pos hz]
      by_cases hf : t.full = true
      · rw [if_pos hf]
        exact turn (R (s.setSt e.at_ (-1, s.ver e.at_)) _ rfl) (Int.le_refl _) rfl h1 h3 h4 ⟨rfl, rfl, rfl, rfl⟩ ⟨hr.1, .inr rfl⟩ (.inl rfl)
          ⟨ok.th, ok.tx, ok.from_, .inr ⟨by dsimp only; omega, by dsimp only; omega⟩, ok.rv, ok.wv, ok.gt, ok.nc, ok.nw, ok.rds, ok.wrs, ok.up⟩
          ⟨by dsimp only; omega, h5.rv, fun h => by dsimp only at h; omega, fun h => by dsimp only at h; omega, fun h => by dsimp only at h; omega, fun h => by dsimp only at h; omega, fun _ => ⟨by dsimp only; omega, hr.2⟩⟩ (fun h => by dsimp only at h; omega) hrv hc0 wvs
      · rw [if_neg hf]
        exact turn (R (s.setSt e.at_ (-1, s.ver e.at_)) _ rfl) (Int.le_refl _) rfl h1 h3 h4 ⟨rfl, rfl, rfl, rfl⟩ ⟨hr.1, .inr rfl⟩ (.inl rfl)
          ⟨ok.th, ok.tx, ok.from_, .inr ⟨by dsimp only; omega, by dsimp only; omega⟩, ok.rv, ok.wv, ok.gt, ok.nc, ok.nw, ok.rds, ok.wrs, ok.up⟩
          ⟨by dsimp only; omega, h5.rv, fun h => by dsimp only at h; omega, fun h => by dsimp only at h; omega, fun h => by dsimp only at h; omega, fun _ => ⟨by dsimp only; omega, by dsimp only; rw [hr.2.1, hr.2.2]; simp⟩, fun h => by dsimp only at h; omega⟩ (fun h => by dsimp only at h; omega) hrv hc0 wvs
    · have ho : o - 1 ≠ 0 := fun e0 => hz ((cntb_zero (clrb_lt wt.m2)).1 (by omega))
      rw [if_neg ho]
      rw [if_neg hz]
      exact turn (R (s.setSt e.at_ (-1, s.ver e.at_)) _ rfl) (Int.le_refl _) rfl h1 h3 h4 ⟨rfl, rfl, rfl, rfl⟩ ⟨hr.1, .inl hr.1⟩ (.inl rfl) ok
        ⟨by dsimp only; omega, h5.rv, fun _ => hr, fun h => by dsimp only at h; omega, fun h => by dsimp only at h; omega, fun h => by dsimp only at h; omega, fun h => by dsimp only at h; omega⟩ (fun h => by dsimp only at h; omega) hrv hc0 wvs
  rw [if_neg k11] at hd
  by_cases k12 : e.kind = 12
  · rw [if_pos k12] at hd
    have hA : ∀ a o, turnA a o e n = { a with to_ := n } := fun a o => by unfold turnA; rw [if_neg k3, if_neg k8, if_neg k7, if_neg (by omega), if_neg k10, if_pos k12]
    have hO : ∀ o, turnO o e = o := fun o => by unfold turnO; rw [if_neg k4, if_neg (by omega)]
    unfold waitS at hd; split at hd
    case isFalse => cases hd
    rename_i hc
    cases hd
    obtain ⟨a, o, h1, h2, h3, h4, h5⟩ := mine (by omega)
    rw [stepH_mid hthe k1 (by omega) h1 h2, hA, hO]
    have hr := h5.run (by omega)
    have ok := (hi.att _ _ h1).mono (Int.le_refl s.clock) (show n ≤ n + 1 by omega)
    have hfr := (hi.att _ _ h1).from_
    exact turn (R s _ rfl) (Int.le_refl _) rfl h1 h3 h4 ⟨rfl, rfl, rfl, rfl⟩ ⟨hr.1, .inr rfl⟩ (.inl rfl)
      ⟨ok.th, ok.tx, ok.from_, .inr ⟨by dsimp only; omega, by dsimp only; omega⟩, ok.rv, ok.wv, ok.gt, ok.nc, ok.nw, ok.rds, ok.wrs, ok.up⟩
      ⟨h5.o, h5.rv, fun h => by dsimp only at h; omega, fun h => by dsimp only at h; omega, fun h => by dsimp only at h; omega, fun h => by dsimp only at h; omega, fun _ => ⟨by dsimp only; omega, hr.2⟩⟩ (fun h => by dsimp only at h; omega) hrv hc0 wvs
  rw [if_neg k12] at hd
  unfold wakeS at hd; split at hd
  case isFalse => cases hd
  rename_i hc
  cases hd
  unfold stepH
  rw [if_neg k1, if_pos (by omega)]
  exact hi.wake hlt (R s _ rfl) rfl rfl (by rw [← ht]; exact hc.1) (by rw [← ht])
/-- Behind k events. -/
theorem hi_run : ∀ (l : List Ev) {s s' : Sh} {h : HS} {n : Int}, Wf s → HI s h n → runS s l = some s' → HI s' (histF h n l) (n + l.length)
  | [], s, s', h, n, hw, hi, hr => by
    cases hr
    simpa [histF] using hi
  | e :: l, s, s', h, n, hw, hi, hr => by
    unfold runS at hr
    split at hr
    case h_2 => cases hr
    rename_i s1 hs
    have := hi_run l (stepS_wf hw hs) (hi_step hw hi hs) hr
    show HI s' (histF (stepH h n e) (n + 1) l) _
    rw [show n + ((e :: l).length : Nat) = n + 1 + (l.length : Nat) by simp only [List.length_cons]; omega]
    exact this
end Go.Proofs.YtnmbacleaijhmaaDoor
/-
  Histories, plainly: rows of a thread's attempts; how attempts grow with the events; which event is of which attempt. Nothing of the program.
-/
namespace Go.Proofs.YtnmbacleaijhmaaDoor
set_option linter.unusedVariables false
set_option linter.unusedSimpArgs false
set_option linter.unusedVariables false

/-- The last attempt of a thread among the first k: its place, and 1; 0: there is none. -/
def lastA (L : List Att) : Nat → Int → Nat
  | 0, _ => 0
  | k + 1, t => if (L.getD k Att.zero).th = t then k + 1 else lastA L k t
theorem lastA_spec (L : List Att) (t : Int) : ∀ k, (lastA L k t = 0 ∧ ∀ j, j < k → (L.getD j Att.zero).th ≠ t) ∨ (∃ m, lastA L k t = m + 1 ∧ m < k ∧ (L.getD m Att.zero).th = t ∧ ∀ j, m < j → j < k → (L.getD j Att.zero).th ≠ t)
  | 0 => .inl ⟨rfl, fun j hj => absurd hj (Nat.not_lt_zero _)⟩
  | k + 1 => by
    unfold lastA
    by_cases h : (L.getD k Att.zero).th = t
    · rw [if_pos h]
      exact .inr ⟨k, rfl, by omega, h, fun j h1 h2 => by omega⟩
    · rw [if_neg h]
      rcases lastA_spec L t k with ⟨h1, h2⟩ | ⟨m, h1, h2, h3, h4⟩
      · refine .inl ⟨h1, fun j hj => ?_⟩
        by_cases he : j = k
        · subst he; exact h
        · exact h2 j (by omega)
      · refine .inr ⟨m, h1, by omega, h3, fun j hm hj => ?_⟩
        by_cases he : j = k
        · subst he; exact h
        · exact h4 j hm (by omega)
theorem get?_getD {α : Type} {l : List α} {k : Nat} (d : α) (h : k < l.length) : l[k]? = some (l.getD k d) := by
  rw [List.getD_eq_getElem?_getD, List.getElem?_eq_getElem h]; rfl
/-- The row of a thread's attempts. -/
theorem row_fact {s : Sh} {h : HS} {n : Int} (hi : HI s h n) {k : Nat} (hk : k < h.out.length) :
    (lastA h.out k (h.out.getD k Att.zero).th = 0 ∧ (h.out.getD k Att.zero).tx = 0) ∨
    (∃ m, lastA h.out k (h.out.getD k Att.zero).th = m + 1 ∧ m < k ∧ (h.out.getD m Att.zero).to_ ≠ -1 ∧ (h.out.getD m Att.zero).to_ < (h.out.getD k Att.zero).from_ ∧
      (h.out.getD k Att.zero).tx = (h.out.getD m Att.zero).tx + if (h.out.getD m Att.zero).com = true then 1 else 0) := by
  have hb := get?_getD Att.zero hk
  rcases lastA_spec h.out (h.out.getD k Att.zero).th k with ⟨h1, h2⟩ | ⟨m, h1, h2, h3, h4⟩
  · refine .inl ⟨h1, hi.row0 k _ hb (fun j a hj ha => ?_)⟩
    rw [← getD_of_get? (d := Att.zero) ha]
    exact h2 j hj
  · have ha := get?_getD Att.zero (show m < h.out.length by omega)
    obtain ⟨_, _, _, _, p5⟩ := hi.pair m k _ _ h2 ha hb
    refine .inr ⟨m, h1, h2, (p5 h3).1, (p5 h3).2, hi.row m k _ _ h2 ha hb h3 (fun j c hj hjk hc => ?_)⟩
    rw [← getD_of_get? (d := Att.zero) hc]
    exact h4 j hj hjk

/-! ### How attempts grow -/
structure Sub (n : Int) (a b : Att) : Prop where
  th : a.th = b.th
  tx : a.tx = b.tx
  from_ : a.from_ = b.from_
  rv : a.rv = b.rv
  rds : a.reads <+: b.reads
  wrs : a.writes <+: b.writes
  com : a.com = true → b.com = true ∧ a.wv = b.wv
  to1 : a.to_ ≠ -1 → a.to_ = b.to_
  to0 : a.to_ = -1 → b.to_ ≠ -1 → n ≤ b.to_
theorem Sub.refl (n : Int) (a : Att) : Sub n a a := ⟨rfl, rfl, rfl, rfl, List.prefix_refl _, List.prefix_refl _, fun h => ⟨h, rfl⟩, fun _ => rfl, fun h h' => absurd h h'⟩
theorem Sub.trans {n n' : Int} {a b c : Att} (h : Sub n a b) (h' : Sub n' b c) (hn : n ≤ n') : Sub n a c where
  th := h.th.trans h'.th
  tx := h.tx.trans h'.tx
  from_ := h.from_.trans h'.from_
  rv := h.rv.trans h'.rv
  rds := h.rds.trans h'.rds
  wrs := h.wrs.trans h'.wrs
  com hc := by
    obtain ⟨h1, h2⟩ := h.com hc
    obtain ⟨h3, h4⟩ := h'.com h1
    exact ⟨h3, h2.trans h4⟩
  to1 hc := by
    have h1 := h.to1 hc
    rw [h1]
    exact h'.to1 (by rw [← h1]; exact hc)
  to0 h1 h2 := by
    by_cases hb : b.to_ = -1
    · have := h'.to0 hb h2; omega
    · have e := h'.to1 hb
      have := h.to0 h1 hb
      omega
/-- What an event (no Begin, no Wake) meets. -/
theorem hi_mid {s s' : Sh} {h : HS} {n : Int} {e : Ev} (hw : Wf s) (hi : HI s h n) (hs : stepS s e = some s') (k1 : e.kind ≠ 1) (k13 : e.kind ≠ 13) :
    ∃ a o, h.out[h.last e.th]? = some a ∧ h.owned[h.last e.th]? = some o ∧ a.th = e.th ∧ a.to_ = -1 ∧ (e.kind = 7 → a.com = false) := by
  obtain ⟨th, t', hthe, hlt, _, _, _, hmv, _, _⟩ := at_step hw hs
  have hat : 1 ≤ (s.ths.getD th Th.zero).at_ ∧ (s.ths.getD th Th.zero).at_ ≤ 7 ∧ (e.kind = 7 → (s.ths.getD th Th.zero).at_ = 1 ∨ (s.ths.getD th Th.zero).at_ = 4) := by
    unfold Moves at hmv; omega
  obtain ⟨a, o, h1, h2, h3, h4, h5⟩ := hi.mine hlt (by omega)
  refine ⟨a, o, by rw [hthe]; exact h1, by rw [hthe]; exact h2, by rw [hthe]; exact h3, ?_, fun hk => ?_⟩
  · by_cases hp : (s.ths.getD th Th.zero).at_ = 5 ∨ (s.ths.getD th Th.zero).at_ = 6
    · exact (h5.put hp).1
    · exact (h5.run (by omega)).1
  · exact (h5.run (by have := hat.2.2 hk; omega)).2.1
theorem cntb_le (m : Nat) : cntb m ≤ 32 := by
  have := List.countP_le_length (p := fun i => m.testBit i) (l := List.range 32)
  rw [List.length_range] at this
  exact this
theorem hi_mo {s s' : Sh} {h : HS} {n : Int} {e : Ev} (hw : Wf s) (hi : HI s h n) (hs : stepS s e = some s') (k1 : e.kind ≠ 1) (k13 : e.kind ≠ 13) : ∃ o, h.owned[h.last e.th]? = some o ∧ 0 ≤ o ∧ o ≤ 32 := by
  obtain ⟨th, t', hthe, hlt, _, _, _, hmv, _, _⟩ := at_step hw hs
  have hat : (s.ths.getD th Th.zero).at_ ≠ 0 := by unfold Moves at hmv; omega
  obtain ⟨a, o, h1, h2, h3, h4, h5⟩ := hi.mine hlt hat
  have := cntb_le (s.ths.getD th Th.zero).owned
  have := h5.o
  exact ⟨o, by rw [hthe]; exact h2, by omega, by omega⟩
theorem turn_sub {a : Att} {o n : Int} {e : Ev} (h0 : a.to_ = -1) (h7 : e.kind = 7 → a.com = false) (hn : 0 ≤ n) : Sub n a (turnA a o e n) ∧ ((turnA a o e n).to_ = -1 ∨ (turnA a o e n).to_ = n) := by
  have ht : ∀ c : Prop, [Decidable c] → (if c then n else a.to_) = -1 ∨ (if c then n else a.to_) = n := by intro c _; split; exact .inr rfl; exact .inl h0
  have h0' : ∀ c : Prop, [Decidable c] → a.to_ = -1 → (if c then n else a.to_) ≠ -1 → n ≤ (if c then n else a.to_) := by
    intro c _ h1 h2
    by_cases hc : c
    · rw [if_pos hc]; omega
    · rw [if_neg hc] at h2; exact absurd h1 h2
  unfold turnA
  split
  · exact ⟨⟨rfl, rfl, rfl, rfl, List.prefix_append _ _, List.prefix_refl _, fun h => ⟨h, rfl⟩, fun _ => rfl, fun h h' => absurd h h'⟩, .inl h0⟩
  · split
    · exact ⟨⟨rfl, rfl, rfl, rfl, List.prefix_refl _, List.prefix_append _ _, fun h => ⟨h, rfl⟩, fun _ => rfl, fun h h' => absurd h h'⟩, .inl h0⟩
    · split
      · rename_i hk
        exact ⟨⟨rfl, rfl, rfl, rfl, List.prefix_refl _, List.prefix_refl _, (fun h => by rw [h7 hk] at h; cases h), fun h => absurd h0 h, h0' _⟩, ht _⟩
      · split
        · exact ⟨⟨rfl, rfl, rfl, rfl, List.prefix_refl _, List.prefix_refl _, fun h => ⟨h, rfl⟩, fun h => absurd h0 h, h0' _⟩, ht _⟩
        · split
          · exact ⟨⟨rfl, rfl, rfl, rfl, List.prefix_refl _, List.prefix_refl _, fun h => ⟨h, rfl⟩, fun h => absurd h0 h, h0' _⟩, ht _⟩
          · split
            · exact ⟨⟨rfl, rfl, rfl, rfl, List.prefix_refl _, List.prefix_refl _, fun h => ⟨h, rfl⟩, fun h => absurd h0 h, fun _ _ => Int.le_refl _⟩, .inr rfl⟩
            · exact ⟨Sub.refl _ _, .inl h0⟩
/-- What behind an event is of what was ahead of it. -/
structure Grown (n : Int) (A B : List Att) : Prop where
  len : A.length ≤ B.length
  old : ∀ k, k < A.length → Sub n (A.getD k Att.zero) (B.getD k Att.zero)
  new : ∀ k, A.length ≤ k → k < B.length → n ≤ (B.getD k Att.zero).from_
theorem Grown.refl (n : Int) (A : List Att) : Grown n A A := ⟨Nat.le_refl _, fun _ _ => Sub.refl _ _, fun k h1 h2 => absurd h2 (Nat.not_lt.2 h1)⟩
theorem Grown.trans {n n' : Int} {A B C : List Att} (h : Grown n A B) (h' : Grown n' B C) (hn : n ≤ n') : Grown n A C where
  len := Nat.le_trans h.len h'.len
  old k hk := (h.old k hk).trans (h'.old k (Nat.lt_of_lt_of_le hk h.len)) hn
  new k h1 h2 := by
    by_cases hb : k < B.length
    · rw [← (h'.old k hb).from_]; exact h.new k h1 hb
    · exact Int.le_trans hn (h'.new k (Nat.not_lt.1 hb) h2)
theorem grown_step {s s' : Sh} {h : HS} {n : Int} {e : Ev} (hw : Wf s) (hi : HI s h n) (hs : stepS s e = some s') : Grown n h.out (stepH h n e).out := by
  unfold stepH
  split
  · refine ⟨by simp, fun k hk => ?_, fun k h1 h2 => ?_⟩
    · show Sub n (h.out.getD k Att.zero) ((h.out ++ [newA e n]).getD k Att.zero)
      rw [List.getD_eq_getElem?_getD, List.getD_eq_getElem?_getD, List.getElem?_append_left hk]
      exact Sub.refl _ _
    · have : k = h.out.length := by simp at h2; omega
      subst this
      show n ≤ ((h.out ++ [newA e n]).getD h.out.length Att.zero).from_
      rw [List.getD_eq_getElem?_getD, List.getElem?_append_right (Nat.le_refl _), Nat.sub_self]
      exact Int.le_refl _
  · split
    · exact Grown.refl _ _
    · rename_i k1 k13
      obtain ⟨a, o, h1, h2, h3, h4, h5⟩ := hi_mid hw hi hs k1 k13
      rw [getD_of_get? h1, getD_of_get? h2]
      have hl := (List.getElem?_eq_some_iff.1 h1).1
      refine ⟨by simp, fun k hk => ?_, fun k h1 h2 => absurd h2 (by simp; omega)⟩
      show Sub n (h.out.getD k Att.zero) ((h.out.set (h.last e.th) (turnA a o e n)).getD k Att.zero)
      by_cases he : h.last e.th = k
      · subst he
        rw [getD_set_eq _ _ _ _ hl, getD_of_get? h1]
        exact (turn_sub h4 h5 hi.pos).1
      · rw [getD_set_ne _ _ _ _ _ he]
        exact Sub.refl _ _
theorem grown_run : ∀ (l : List Ev) {s s' : Sh} {h : HS} {n : Int}, Wf s → HI s h n → runS s l = some s' → Grown n h.out (histF h n l).out
  | [], s, s', h, n, hw, hi, hr => Grown.refl _ _
  | e :: l, s, s', h, n, hw, hi, hr => by
    unfold runS at hr
    split at hr
    case h_2 => cases hr
    rename_i s1 hs
    exact (grown_step hw hi hs).trans (grown_run l (stepS_wf hw hs) (hi_step hw hi hs) hr) (by omega)

/-! ### Traces -/
theorem histF_append : ∀ (l m : List Ev) (h : HS) (i : Int), histF h i (l ++ m) = histF (histF h i l) (i + l.length) m
  | [], m, h, i => by simp [histF]
  | x :: l, m, h, i => by
    show histF (stepH h i x) (i + 1) (l ++ m) = histF (histF (stepH h i x) (i + 1) l) _ m
    rw [histF_append l m]
    congr 1
    simp only [List.length_cons]; omega
/-- A well-formed trace's history. -/
structure Hist (T V S : Int) (l : List Ev) (s : Sh) : Prop where
  size : sizeOk T V S = true
  run : runS (newS T V S) l = some s
theorem Hist.hi {T V S : Int} {l : List Ev} {s : Sh} (h : Hist T V S l s) : HI s (histT l) l.length := by
  have := hi_run l (newS_wf h.size) (hi_new T V S) h.run
  rwa [Int.zero_add] at this
theorem Hist.wf {T V S : Int} {l : List Ev} {s : Sh} (h : Hist T V S l s) : Wf s := runS_wf l (newS_wf h.size) h.run
theorem Hist.take {T V S : Int} {l : List Ev} {s : Sh} (h : Hist T V S l s) (k : Nat) : ∃ r, Hist T V S (l.take k) r := by
  obtain ⟨r, hr⟩ := runS_take (k := k) h.run
  exact ⟨r, h.size, hr⟩
theorem Hist.grown {T V S : Int} {l : List Ev} {s : Sh} (h : Hist T V S l s) {k : Nat} (hk : k ≤ l.length) : Grown k (histT (l.take k)).out (histT l).out := by
  obtain ⟨r, hr⟩ := h.take k
  have e : l = l.take k ++ l.drop k := (List.take_append_drop k l).symm
  have hrun := h.run
  rw [e, runS_append, hr.run] at hrun
  have := grown_run (l.drop k) hr.wf hr.hi hrun
  rw [List.length_take, Nat.min_eq_left hk] at this
  have e2 : histT l = histF (histT (l.take k)) k (l.drop k) := by
    conv => lhs; rw [e]
    unfold histT
    rw [histF_append, List.length_take, Nat.min_eq_left hk, Int.zero_add]
  rw [e2]
  exact this
theorem Hist.step {T V S : Int} {l : List Ev} {s : Sh} (h : Hist T V S l s) {k : Nat} (hk : k < l.length) : ∃ r r', Hist T V S (l.take k) r ∧ stepS r l[k] = some r' ∧ Hist T V S (l.take (k + 1)) r' := by
  obtain ⟨r, hr⟩ := h.take k
  obtain ⟨r', h1, h2⟩ := runS_step h.run hk hr.run
  exact ⟨r, r', hr, h1, h.size, h2⟩
/-- Whose an event is. -/
def ofI (l : List Ev) (i : Nat) : Int := match l[i]? with
  | some e => ofH (histT (l.take i)) e
  | none => -1
theorem ofI_eq {l : List Ev} {i : Nat} (h : i < l.length) : ofI l i = ofH (histT (l.take i)) l[i] := by
  unfold ofI; rw [List.getElem?_eq_getElem h]
theorem ofT_take (l : List Ev) : ∀ k, k ≤ l.length → ofT (l.take k) = (List.range k).map (ofI l)
  | 0, _ => by simp [ofT, ofF]
  | k + 1, h => by
    rw [ofT_step h, ofT_take l k (by omega), List.range_succ, List.map_append, List.map_cons, List.map_nil, ofI_eq h]
theorem ofT_eq (l : List Ev) : ofT l = (List.range l.length).map (ofI l) := by
  have := ofT_take l l.length (Nat.le_refl _)
  rwa [List.take_length] at this
/-- What holds of each event, and its attempt at the end. -/
structure EachI (l : List Ev) (i : Nat) (e : Ev) (k : Nat) (a : Att) : Prop where
  of : ofI l i = k
  lt : k < (histT l).out.length
  get : (histT l).out.getD k Att.zero = a
  th : a.th = e.th
  from_ : a.from_ ≤ i
  to_ : a.to_ ≠ -1 → (i : Int) ≤ a.to_
  begin : e.kind = 1 → k = (histT (l.take i)).out.length ∧ a.from_ = i ∧ a.tx = e.tx ∧ a.rv = e.v
  load : e.kind = 3 → a.reads[((histT (l.take i)).out.getD k Att.zero).reads.length]? = some (e.at_, e.x)
  store : e.kind = 8 → a.writes[((histT (l.take i)).out.getD k Att.zero).writes.length]? = some (e.at_, e.x)
  commit : e.kind = 7 → a.com = true ∧ a.wv = e.v
theorem prefix_get {α : Type} {l m : List α} {k : Nat} {x : α} (h : l <+: m) (hx : l[k]? = some x) : m[k]? = some x := by
  obtain ⟨t, rfl⟩ := h
  rw [List.getElem?_append_left (List.getElem?_eq_some_iff.1 hx).1]; exact hx
theorem Hist.each {T V S : Int} {l : List Ev} {s : Sh} (h : Hist T V S l s) {i : Nat} (hi : i < l.length) (k13 : l[i].kind ≠ 13) : ∃ k a, EachI l i l[i] k a := by
  obtain ⟨r, r', hr, hs, hr'⟩ := h.step hi
  have hg := h.grown (k := i + 1) hi
  have hlen : ((l.take i).length : Int) = i := by rw [List.length_take, Nat.min_eq_left (Nat.le_of_lt hi)]
  have hI := hr.hi
  rw [hlen] at hI
  have hst := histT_step hi
  by_cases k1 : l[i].kind = 1
  · have ho : ofI l i = ((histT (l.take i)).out.length : Nat) := by rw [ofI_eq hi]; unfold ofH; rw [if_pos k1]
    have hout : (histT (l.take (i + 1))).out = (histT (l.take i)).out ++ [newA l[i] i] := by rw [hst]; unfold stepH; rw [if_pos k1]
    have hk : (histT (l.take i)).out.length < (histT (l.take (i + 1))).out.length := by rw [hout]; simp
    have hget : (histT (l.take (i + 1))).out.getD (histT (l.take i)).out.length Att.zero = newA l[i] i := by
      rw [hout, List.getD_eq_getElem?_getD, List.getElem?_append_right (Nat.le_refl _), Nat.sub_self]; rfl
    have hsub := hg.old _ hk
    rw [hget] at hsub
    refine ⟨_, _, ho, Nat.lt_of_lt_of_le hk hg.len, rfl, hsub.th.symm, ?_, fun h1 => ?_, fun _ => ⟨rfl, hsub.from_.symm, hsub.tx.symm, hsub.rv.symm⟩, fun h3 => by omega, fun h8 => by omega, fun h7 => by omega⟩
    · rw [← hsub.from_]; exact Int.le_refl _
    · have := hsub.to0 rfl h1; omega
  · obtain ⟨a, o, h1, h2, h3, h4, h5⟩ := hi_mid hr.wf hI hs k1 k13
    have hl := (List.getElem?_eq_some_iff.1 h1).1
    have ho : ofI l i = ((histT (l.take i)).last l[i].th : Nat) := by rw [ofI_eq hi]; unfold ofH; rw [if_neg k1, if_neg k13]
    have hout : (histT (l.take (i + 1))).out = (histT (l.take i)).out.set ((histT (l.take i)).last l[i].th) (turnA a o l[i] i) := by
      rw [hst]; unfold stepH; rw [if_neg k1, if_neg k13, getD_of_get? h1, getD_of_get? h2]
    have hk : (histT (l.take i)).last l[i].th < (histT (l.take (i + 1))).out.length := by rw [hout, List.length_set]; exact hl
    have hget : (histT (l.take (i + 1))).out.getD ((histT (l.take i)).last l[i].th) Att.zero = turnA a o l[i] i := by rw [hout]; exact getD_set_eq _ _ _ _ hl
    have hsub := hg.old _ hk
    rw [hget] at hsub
    obtain ⟨ts, tt⟩ := turn_sub (o := o) (n := (i : Int)) h4 h5 (by omega)
    have hgo : (histT (l.take i)).out.getD ((histT (l.take i)).last l[i].th) Att.zero = a := getD_of_get? h1
    have hfr := (hI.att _ _ h1).from_
    refine ⟨_, _, ho, Nat.lt_of_lt_of_le hk hg.len, rfl, ?_, ?_, fun h1 => ?_, fun h => absurd h k1, fun k3 => ?_, fun k8 => ?_, fun k7 => ?_⟩
    · rw [← hsub.th, ← ts.th]; exact h3
    · rw [← hsub.from_, ← ts.from_]; omega
    · rcases tt with e | e
      · have := hsub.to0 e h1; omega
      · have := hsub.to1 (by omega); omega
    · refine prefix_get hsub.rds ?_
      rw [hgo]
      unfold turnA
      rw [if_pos k3]
      simp
    · refine prefix_get hsub.wrs ?_
      rw [hgo]
      unfold turnA
      rw [if_neg (by omega), if_pos k8]
      simp
    · have hc : (turnA a o l[i] i).com = true ∧ (turnA a o l[i] i).wv = l[i].v := by
        unfold turnA
        rw [if_neg (by omega), if_neg (by omega), if_pos k7]
        exact ⟨rfl, rfl⟩
      obtain ⟨q1, q2⟩ := hsub.com hc.1
      exact ⟨q1, by rw [← q2]; exact hc.2⟩
end Go.Proofs.YtnmbacleaijhmaaDoor
