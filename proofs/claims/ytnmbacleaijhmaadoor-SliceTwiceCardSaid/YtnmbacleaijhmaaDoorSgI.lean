/-
  Joined texts: ShK2 ShK3 SlT SlU SlV SlX SlZ SlZ2.
-/
import Derived.Test.YtnmbacleaijhmaaDoorSgA
import Derived.Test.YtnmbacleaijhmaaDoorSgD
/-
  The checker's machine: without the attempts that go, every other event comes still. Nothing of the program.
-/
namespace Go.Proofs.YtnmbacleaijhmaaDoor
set_option linter.unusedVariables false

/-- Versions rise; who owns a stripe has its bit. -/
structure Mon (s : Sh) : Prop where
  a : ∀ i, i < s.ths.length → (s.ths.getD i Th.zero).at_ = 4 ∨ (s.ths.getD i Th.zero).at_ = 5 ∨ (s.ths.getD i Th.zero).at_ = 6 → ∀ b, (s.ths.getD i Th.zero).owned.testBit b = true → stV s b < (s.ths.getD i Th.zero).wv
  c : ∀ b i : Nat, stO s b = (i : Int) → (s.ths.getD i Th.zero).owned.testBit b = true
  d : ∀ b, stV s b ≤ s.clock
theorem Mon.mk' {s s' : Sh} (hm : Mon s) (hw : Wf s) {th : Nat} {t' : Th} (hlt : th < s.ths.length) (hths : s'.ths = s.ths.set th t') (hclk : s.clock ≤ s'.clock)
    (hst : s'.sts = s.sts ∨ ∃ a p, s'.sts = s.sts.set a p ∧ a < s.sts.length ∧ (stO s a = -1 ∨ stO s a = (th : Int)) ∧ (p.1 = -1 ∨ p.1 = (th : Int)) ∧ p.2 ≤ s'.clock)
    (ho : ∀ b, stO s' b = (th : Int) → t'.owned.testBit b = true)
    (ha : t'.at_ = 4 ∨ t'.at_ = 5 ∨ t'.at_ = 6 → ∀ b, t'.owned.testBit b = true → stV s' b < t'.wv) : Mon s' := by
  refine ⟨fun i hi hx b hb => ?_, fun b i hb => ?_, fun b => ?_⟩
  · rw [hths, List.length_set] at hi
    rw [hths] at hx hb ⊢
    by_cases he : th = i
    · subst he
      rw [getD_set_eq _ _ _ _ hi] at hx hb ⊢
      exact ha hx b hb
    · rw [getD_set_ne _ _ _ _ _ he] at hx hb ⊢
      have h1 := hm.a i hi hx b hb
      rcases hst with hs | ⟨a, p, hs, ha', hown, -, -⟩
      · unfold stV; rw [hs]; exact h1
      · unfold stV; rw [hs]
        by_cases hab : a = b
        · subst hab
          have := ((hw.th i hi).own _ hb).2
          unfold stO at hown
          omega
        · rw [getD_set_ne _ _ _ _ _ hab]; exact h1
  · rw [hths]
    by_cases he : th = i
    · subst he
      rw [getD_set_eq _ _ _ _ hlt]
      exact ho b hb
    · rw [getD_set_ne _ _ _ _ _ he]
      rcases hst with hs | ⟨a, p, hs, ha', hown, hp, -⟩
      · unfold stO at hb; rw [hs] at hb; exact hm.c b i hb
      · unfold stO at hb; rw [hs] at hb
        by_cases hab : a = b
        · subst hab; rw [getD_set_eq _ _ _ _ ha'] at hb; omega
        · rw [getD_set_ne _ _ _ _ _ hab] at hb; exact hm.c b i hb
  · rcases hst with hs | ⟨a, p, hs, ha', hown, hp, hq⟩
    · unfold stV; rw [hs]; have := hm.d b; unfold stV at this; omega
    · unfold stV; rw [hs]
      by_cases hab : a = b
      · subst hab; rw [getD_set_eq _ _ _ _ ha']; exact hq
      · rw [getD_set_ne _ _ _ _ _ hab]; have := hm.d b; unfold stV at this; omega
theorem stO_set {s : Sh} {e : Ev} {p : Int × Int} {t' : Th} (h : e.at_.toNat < s.sts.length) (b : Nat) : stO ((s.setSt e.at_ p).setTh e.th t') b = if b = e.at_.toNat then p.1 else stO s b := by
  show ((s.sts.set e.at_.toNat p).getD b (-1, 0)).1 = _
  by_cases hi : e.at_.toNat = b
  · subst hi; rw [getD_set_eq _ _ _ _ h, if_pos rfl]
  · rw [getD_set_ne _ _ _ _ _ hi, if_neg (Ne.symm hi)]; rfl
theorem stV_set {s : Sh} {e : Ev} {p : Int × Int} {t' : Th} (h : e.at_.toNat < s.sts.length) (b : Nat) : stV ((s.setSt e.at_ p).setTh e.th t') b = if b = e.at_.toNat then p.2 else stV s b := by
  show ((s.sts.set e.at_.toNat p).getD b (-1, 0)).2 = _
  by_cases hi : e.at_.toNat = b
  · subst hi; rw [getD_set_eq _ _ _ _ h, if_pos rfl]
  · rw [getD_set_ne _ _ _ _ _ hi, if_neg (Ne.symm hi)]; rfl

/-- The filtered run beside the whole one. -/
structure Sim (s r : Sh) (f : Nat → Bool) : Prop where
  vars : r.vars = s.vars
  nt : r.ths.length = s.ths.length
  ns : r.sts.length = s.sts.length
  clk : r.clock ≤ s.clock
  ver : ∀ b, stV r b ≤ stV s b
  own : ∀ b, (stO s b = -1 → stO r b = -1) ∧ ∀ i : Nat, stO s b = (i : Int) → stO r b = if f i = true then -1 else (i : Int)
  same : ∀ i, i < s.ths.length → f i = false → r.ths.getD i Th.zero = s.ths.getD i Th.zero
  rest : ∀ i, i < s.ths.length → f i = true → (r.ths.getD i Th.zero).at_ = 0 ∧ (r.ths.getD i Th.zero).commits = (s.ths.getD i Th.zero).commits
  look : ∀ i, i < s.ths.length → f i = false → (s.ths.getD i Th.zero).at_ = 2 → (s.ths.getD i Th.zero).v ≤ stV r (s.ths.getD i Th.zero).stripe.toNat
/-- An event that goes: the whole run turns, the other one stands. -/
theorem Sim.drop {s r s' : Sh} {f f' : Nat → Bool} (h : Sim s r f) {th : Nat} {t' : Th} (hlt : th < s.ths.length) (hths : s'.ths = s.ths.set th t') (hv : s'.vars = s.vars) (hn : s'.sts.length = s.sts.length) (hclk : s.clock ≤ s'.clock)
    (hf : f' th = true) (hff : ∀ i, i ≠ th → f' i = f i) (hc : t'.commits = (s.ths.getD th Th.zero).commits) (h0 : f th = false → (s.ths.getD th Th.zero).at_ = 0 ∧ ∀ b, stO s b ≠ (th : Int))
    (hver : ∀ b, stV s b ≤ stV s' b) (hown : ∀ b, stO s' b = stO s b ∨ ((stO s b = -1 ∨ stO s b = (th : Int)) ∧ (stO s' b = -1 ∨ stO s' b = (th : Int)))) : Sim s' r f' := by
  have hmine : ∀ b, stO s b = -1 ∨ stO s b = (th : Int) → stO r b = -1 := by
    rintro b (hb | hb)
    · exact (h.own b).1 hb
    · cases hft : f th with
      | false => exact absurd hb ((h0 hft).2 b)
      | true => rw [(h.own b).2 th hb, if_pos hft]
  have hthr : ∀ i, th ≠ i → s'.ths.getD i Th.zero = s.ths.getD i Th.zero := by intro i hi; rw [hths, getD_set_ne _ _ _ _ _ hi]
  have hlen : s'.ths.length = s.ths.length := by rw [hths, List.length_set]
  refine ⟨by rw [hv]; exact h.vars, by rw [hlen]; exact h.nt, by rw [hn]; exact h.ns, by have := h.clk; omega, fun b => by have := h.ver b; have := hver b; omega, fun b => ?_, fun i hi hfi => ?_, fun i hi hfi => ?_, fun i hi hfi hx => ?_⟩
  · rcases hown b with e | ⟨e1, e2⟩
    · rw [e]
      refine ⟨(h.own b).1, fun i hi => ?_⟩
      by_cases hti : i = th
      · subst hti; rw [if_pos hf]; exact hmine b (Or.inr hi)
      · rw [hff i hti]; exact (h.own b).2 i hi
    · refine ⟨fun _ => hmine b e1, fun i hi => ?_⟩
      have : i = th := by omega
      subst this
      rw [if_pos hf]; exact hmine b e1
  · have hti : th ≠ i := by intro e; subst e; rw [hf] at hfi; cases hfi
    rw [hthr i hti]; exact h.same i (by omega) (by rw [← hff i (Ne.symm hti)]; exact hfi)
  · by_cases hti : th = i
    · subst hti
      rw [hths, getD_set_eq _ _ _ _ hlt, hc]
      cases hft : f th with
      | false => rw [h.same th hlt hft]; exact ⟨(h0 hft).1, rfl⟩
      | true => exact h.rest th hlt hft
    · rw [hthr i hti]; exact h.rest i (by omega) (by rw [← hff i (Ne.symm hti)]; exact hfi)
  · have hti : th ≠ i := by intro e; subst e; rw [hf] at hfi; cases hfi
    rw [hthr i hti] at hx ⊢; exact h.look i (by omega) (by rw [← hff i (Ne.symm hti)]; exact hfi) hx
/-- An event that stays: both turn alike. -/
theorem Sim.keep {s r s' r' : Sh} {f f' : Nat → Bool} (h : Sim s r f) {th : Nat} {t' : Th} (hlt : th < s.ths.length) (hths : s'.ths = s.ths.set th t') (hrths : r'.ths = r.ths.set th t') (hv : s'.vars = s.vars) (hrv : r'.vars = r.vars) (hclk : r'.clock ≤ s'.clock)
    (hf : f' th = false) (hff : ∀ i, i ≠ th → f' i = f i) (h0 : f th = true → ∀ b, stO s b ≠ (th : Int))
    (hst : (s'.sts = s.sts ∧ r'.sts = r.sts) ∨ ∃ a p q, s'.sts = s.sts.set a p ∧ r'.sts = r.sts.set a q ∧ a < s.sts.length ∧ (p.1 = -1 ∨ p.1 = (th : Int)) ∧ q.1 = p.1 ∧ q.2 ≤ p.2 ∧ stV r a ≤ q.2)
    (hl : t'.at_ = 2 → t'.v ≤ stV r' t'.stripe.toNat) : Sim s' r' f' := by
  have hthr : ∀ i, th ≠ i → s'.ths.getD i Th.zero = s.ths.getD i Th.zero := by intro i hi; rw [hths, getD_set_ne _ _ _ _ _ hi]
  have hthr' : ∀ i, th ≠ i → r'.ths.getD i Th.zero = r.ths.getD i Th.zero := by intro i hi; rw [hrths, getD_set_ne _ _ _ _ _ hi]
  have hlen : s'.ths.length = s.ths.length := by rw [hths, List.length_set]
  have hn : s'.sts.length = s.sts.length ∧ r'.sts.length = r.sts.length := by
    rcases hst with ⟨e1, e2⟩ | ⟨a, p, q, e1, e2, -⟩ <;> rw [e1, e2] <;> simp
  have hver : ∀ b, stV r' b ≤ stV s' b ∧ stV r b ≤ stV r' b := by
    intro b
    have h1 := h.ver b
    rcases hst with ⟨e1, e2⟩ | ⟨a, p, q, e1, e2, ha, -, -, hq, hq2⟩
    · unfold stV at *; rw [e1, e2]; exact ⟨h1, Int.le_refl _⟩
    · unfold stV at *; rw [e1, e2]
      by_cases hab : a = b
      · subst hab
        rw [getD_set_eq _ _ _ _ ha, getD_set_eq _ _ _ _ (by rw [h.ns]; exact ha)]; exact ⟨hq, hq2⟩
      · rw [getD_set_ne _ _ _ _ _ hab, getD_set_ne _ _ _ _ _ hab]; exact ⟨h1, Int.le_refl _⟩
  have hown0 : ∀ b, (stO s b = -1 → stO r b = -1) ∧ ∀ i : Nat, stO s b = (i : Int) → stO r b = if f' i = true then -1 else (i : Int) := by
    intro b
    refine ⟨(h.own b).1, fun i hi => ?_⟩
    by_cases hti : i = th
    · subst hti
      cases hft : f i with
      | false => have := (h.own b).2 i hi; rw [hft] at this; rw [hf]; exact this
      | true => exact absurd hi (h0 hft b)
    · rw [hff i hti]; exact (h.own b).2 i hi
  refine ⟨by rw [hv, hrv]; exact h.vars, by rw [hlen, hrths, List.length_set]; exact h.nt, by rw [hn.1, hn.2]; exact h.ns, hclk, fun b => (hver b).1, fun b => ?_, fun i hi hfi => ?_, fun i hi hfi => ?_, fun i hi hfi hx => ?_⟩
  · rcases hst with ⟨e1, e2⟩ | ⟨a, p, q, e1, e2, ha, hp, hqp, -⟩
    · have := hown0 b; unfold stO at *; rw [e1, e2]; exact this
    · by_cases hab : a = b
      · subst hab
        unfold stO; rw [e1, e2, getD_set_eq _ _ _ _ ha, getD_set_eq _ _ _ _ (by rw [h.ns]; exact ha), hqp]
        refine ⟨fun h1 => h1, fun i hi => ?_⟩
        have : i = th := by omega
        subst this
        rw [hf]; exact hi
      · have := hown0 b; unfold stO at *; rw [e1, e2, getD_set_ne _ _ _ _ _ hab, getD_set_ne _ _ _ _ _ hab]; exact this
  · by_cases hti : th = i
    · subst hti; rw [hths, hrths, getD_set_eq _ _ _ _ hlt, getD_set_eq _ _ _ _ (by rw [h.nt]; exact hlt)]
    · rw [hthr i hti, hthr' i hti]; exact h.same i (by omega) (by rw [← hff i (Ne.symm hti)]; exact hfi)
  · have hti : th ≠ i := by intro e; subst e; rw [hf] at hfi; cases hfi
    rw [hthr i hti, hthr' i hti]; exact h.rest i (by omega) (by rw [← hff i (Ne.symm hti)]; exact hfi)
  · by_cases hti : th = i
    · subst hti; rw [hths, getD_set_eq _ _ _ _ hlt] at hx ⊢; exact hl hx
    · rw [hthr i hti] at hx ⊢
      have := h.look i (by omega) (by rw [← hff i (Ne.symm hti)]; exact hfi) hx
      have := (hver (s.ths.getD i Th.zero).stripe.toNat).2
      omega
end Go.Proofs.YtnmbacleaijhmaaDoor
/-
  The checker's machine: versions rise with each event. Nothing of the program.
-/
namespace Go.Proofs.YtnmbacleaijhmaaDoor
set_option linter.unusedVariables false

theorem mon_step {s s' : Sh} {e : Ev} (hw : Wf s) (hm : Mon s) (h : stepS s e = some s') : Mon s' := by
  obtain ⟨th, hthe, htn, hlt, -, hk, hat, hatS, hmod, hv, hd⟩ := stepS_inv hw h
  have ht := hw.th th hlt
  have hA := hm.a th hlt
  have hC := fun b => hm.c b th
  have hD := hm.d
  have R : ∀ (q : Sh) (t' : Th), q.ths = s.ths → (q.setTh e.th t').ths = s.ths.set th t' := by intro q t' h1; simp only [Sh.setTh, h1, htn]
  generalize s.ths.getD th Th.zero = t at hd ht hA hC
  -- only the thread's record turns
  have F : ∀ (c : Int) (t' : Th), s.clock ≤ c → t'.owned = t.owned → (t'.at_ = 4 ∨ t'.at_ = 5 ∨ t'.at_ = 6 → ∀ b, t'.owned.testBit b = true → stV s b < t'.wv) → Mon ({ s with clock := c }.setTh e.th t') := by
    intro c t' h1 h2 h3
    exact hm.mk' hw hlt (R _ _ rfl) h1 (Or.inl rfl) (fun b hb => by rw [h2]; exact hC b hb) h3
  have F0 : ∀ (t' : Th), t'.owned = t.owned → (t'.at_ = 4 ∨ t'.at_ = 5 ∨ t'.at_ = 6 → ∀ b, t'.owned.testBit b = true → stV s b < t'.wv) → Mon (s.setTh e.th t') := fun t' h2 h3 => F s.clock t' (Int.le_refl _) h2 h3
  unfold doesS at hd
  by_cases k1 : e.kind = 1
  · rw [if_pos k1] at hd
    unfold beginS at hd; split at hd
    case isFalse => cases hd
    rename_i hc
    cases hd
    exact F e.v _ hc.2.2 (ht.idle (Or.inl hc.1)).symm (by simp)
  rw [if_neg k1] at hd
  by_cases k2 : e.kind = 2
  · rw [if_pos k2] at hd
    unfold lookS at hd; split at hd
    case isFalse => cases hd
    rename_i hc
    cases hd
    obtain ⟨h1, h2⟩ := hatS (by omega) (by omega)
    refine hm.mk' hw hlt (R _ _ rfl) (Int.le_refl _) (Or.inr ⟨e.at_.toNat, (-1, e.v), rfl, h2, Or.inl hc.2.1, Or.inl rfl, ?_⟩) (fun b hb => ?_) (by simp)
    · have := ht.rvb; show e.v ≤ s.clock; omega
    · rw [stO_set h2] at hb
      split at hb
      · simp only at hb; omega
      · exact hC b hb
  rw [if_neg k2] at hd
  by_cases k3 : e.kind = 3
  · rw [if_pos k3] at hd
    unfold loadS at hd; split at hd
    case isFalse => cases hd
    cases hd
    exact F0 _ rfl (by simp)
  rw [if_neg k3] at hd
  by_cases k4 : e.kind = 4
  · rw [if_pos k4] at hd
    unfold lockS at hd; split at hd
    case isFalse => cases hd
    rename_i hc
    cases hd
    obtain ⟨h1, h2⟩ := hatS (by omega) (by omega)
    refine hm.mk' hw hlt (R _ _ rfl) (Int.le_refl _) (Or.inr ⟨e.at_.toNat, (e.th, s.ver e.at_), rfl, h2, Or.inl hc.2.2, Or.inr hthe, hD e.at_.toNat⟩) (fun b hb => ?_) (by simp)
    rw [stO_set h2] at hb
    simp only [testBit_setb, Bool.or_eq_true, decide_eq_true_eq]
    split at hb
    · exact Or.inr (by omega)
    · exact Or.inl (hC b hb)
  rw [if_neg k4] at hd
  by_cases k5 : e.kind = 5
  · rw [if_pos k5] at hd
    unfold bumpS at hd; split at hd
    case isFalse => cases hd
    rename_i hc
    cases hd
    exact F e.v _ (Int.le_of_lt hc.2) rfl (fun _ b _ => by have := hD b; simp only; omega)
  rw [if_neg k5] at hd
  by_cases k6 : e.kind = 6
  · rw [if_pos k6] at hd
    unfold checkS at hd; split at hd
    case isFalse => cases hd
    rename_i hc
    cases hd
    exact F0 _ rfl (fun hx => hA hx)
  rw [if_neg k6] at hd
  by_cases k7 : e.kind = 7
  · rw [if_pos k7] at hd
    unfold commitS at hd; split at hd
    · cases hd
      exact F0 _ rfl (by simp)
    split at hd
    · rename_i hc
      cases hd
      exact F0 _ rfl (fun _ => hA (Or.inl hc.2.1))
    cases hd
  rw [if_neg k7] at hd
  by_cases k8 : e.kind = 8
  · rw [if_pos k8] at hd
    unfold storeS at hd; split at hd
    case isFalse => cases hd
    rename_i hc
    cases hd
    exact F0 _ rfl (fun hx => hA hx)
  rw [if_neg k8] at hd
  by_cases k9 : e.kind = 9
  · rw [if_pos k9] at hd
    unfold freedS at hd; split at hd
    case isFalse => cases hd
    rename_i hc
    cases hd
    obtain ⟨h1, h2⟩ := hatS (by omega) (by omega)
    have hA' := hA (by omega)
    have hbit : t.owned.testBit e.at_.toNat = true := by
      have : e.at_.toNat = leastb t.owned := by omega
      rw [this]; exact leastb_some (by omega)
    have main : ∀ t' : Th, t'.owned = clrb t.owned e.at_.toNat → t'.wv = t.wv → Mon ((s.setSt e.at_ (-1, t.wv)).setTh e.th t') := by
      intro t' o1 o2
      refine hm.mk' hw hlt (R _ _ rfl) (Int.le_refl _) (Or.inr ⟨e.at_.toNat, (-1, t.wv), rfl, h2, Or.inr (ht.own _ hbit).2, Or.inl rfl, ht.wvb.2⟩) (fun b hb => ?_) (fun _ b hb => ?_)
      · rw [stO_set h2] at hb
        split at hb
        · simp only at hb; omega
        · rename_i hne
          rw [o1, testBit_clrb, hC b hb]; simp; omega
      · rw [o1, testBit_clrb, Bool.and_eq_true] at hb
        have hne : ¬ b = e.at_.toNat := by have := hb.2; simp at this; omega
        rw [stV_set h2, if_neg hne, o2]; exact hA' b hb.1
    split
    · exact main _ rfl rfl
    · exact main _ rfl rfl
  rw [if_neg k9] at hd
  by_cases k10 : e.kind = 10
  · rw [if_pos k10] at hd
    unfold abortS at hd; split at hd
    case isFalse => cases hd
    cases hd
    exact F0 _ rfl (fun hx => by simp only at hx; split at hx <;> omega)
  rw [if_neg k10] at hd
  by_cases k11 : e.kind = 11
  · rw [if_pos k11] at hd
    unfold undoS at hd; split at hd
    case isFalse => cases hd
    rename_i hc
    cases hd
    obtain ⟨h1, h2⟩ := hatS (by omega) (by omega)
    have hbit : t.owned.testBit e.at_.toNat = true := by
      have : e.at_.toNat = leastb t.owned := by omega
      rw [this]; exact leastb_some (by omega)
    refine hm.mk' hw hlt (R _ _ rfl) (Int.le_refl _) (Or.inr ⟨e.at_.toNat, (-1, s.ver e.at_), rfl, h2, Or.inr (ht.own _ hbit).2, Or.inl rfl, hD e.at_.toNat⟩) (fun b hb => ?_) (fun hx => by simp only at hx; (repeat' split at hx) <;> omega)
    rw [stO_set h2] at hb
    split at hb
    · simp only at hb; omega
    · rename_i hne
      rw [testBit_clrb, hC b hb]; simp; omega
  rw [if_neg k11] at hd
  by_cases k12 : e.kind = 12
  · rw [if_pos k12] at hd
    unfold waitS at hd; split at hd
    case isFalse => cases hd
    cases hd
    exact F0 _ rfl (by simp)
  rw [if_neg k12] at hd
  unfold wakeS at hd; split at hd
  case isFalse => cases hd
  cases hd
  exact F0 _ rfl (by simp)
theorem newS_mon (T V S : Int) : Mon (newS T V S) := by
  have e : ∀ i, (newS T V S).ths.getD i Th.zero = Th.zero := by
    intro i; simp only [newS, List.getD_eq_getElem?_getD, List.getElem?_replicate]; split <;> rfl
  have e2 : ∀ b, stO (newS T V S) b = -1 ∧ stV (newS T V S) b = 0 := by
    intro b; unfold stO stV; simp only [newS, List.getD_eq_getElem?_getD, List.getElem?_replicate]; split <;> exact ⟨rfl, rfl⟩
  exact ⟨fun i _ hx => by rw [e] at hx; simp [Th.zero] at hx, fun b i hb => by rw [(e2 b).1] at hb; omega, fun b => by rw [(e2 b).2]; exact Int.le_refl 0⟩
end Go.Proofs.YtnmbacleaijhmaaDoor
/-
  The checker's machine over a slice of a trace: without the attempts of some, the events of the others come still. Nothing of the program.
-/
namespace Go.Proofs.YtnmbacleaijhmaaDoor
set_option linter.unusedVariables false
set_option linter.unusedSimpArgs false
set_option linter.unusedVariables false
/-- The filtered run beside the whole one. -/
structure SimG (s r : Sh) (f g : Nat → Bool) : Prop where
  vars : r.vars = s.vars
  nt : r.ths.length = s.ths.length
  ns : r.sts.length = s.sts.length
  clk : r.clock ≤ s.clock
  ver : ∀ b, stV r b ≤ stV s b
  own : ∀ b, (stO s b = -1 → stO r b = -1) ∧ ∀ i : Nat, stO s b = (i : Int) → stO r b = if f i = true then -1 else (i : Int)
  same : ∀ i, i < s.ths.length → f i = false → r.ths.getD i Th.zero = s.ths.getD i Th.zero
  rest : ∀ i, i < s.ths.length → f i = true → (r.ths.getD i Th.zero).at_ = 0 ∧ (g i = false → (r.ths.getD i Th.zero).commits = (s.ths.getD i Th.zero).commits)
  look : ∀ i, i < s.ths.length → f i = false → (s.ths.getD i Th.zero).at_ = 2 → (s.ths.getD i Th.zero).v ≤ stV r (s.ths.getD i Th.zero).stripe.toNat
/-- An event that goes: the whole run turns, the other one stands. -/
theorem SimG.drop {s r s' : Sh} {f f' g g' : Nat → Bool} (h : SimG s r f g) {th : Nat} {t' : Th} (hlt : th < s.ths.length) (hths : s'.ths = s.ths.set th t') (hv : s'.vars = s.vars) (hn : s'.sts.length = s.sts.length) (hclk : s.clock ≤ s'.clock)
    (hf : f' th = true) (hff : ∀ i, i ≠ th → f' i = f i) (hgg : ∀ i, i ≠ th → g' i = g i) (hc : g' th = false → g th = false ∧ t'.commits = (s.ths.getD th Th.zero).commits) (h0 : f th = false → (s.ths.getD th Th.zero).at_ = 0 ∧ ∀ b, stO s b ≠ (th : Int))
    (hver : ∀ b, stV s b ≤ stV s' b) (hown : ∀ b, stO s' b = stO s b ∨ ((stO s b = -1 ∨ stO s b = (th : Int)) ∧ (stO s' b = -1 ∨ stO s' b = (th : Int)))) : SimG s' r f' g' := by
  have hmine : ∀ b, stO s b = -1 ∨ stO s b = (th : Int) → stO r b = -1 := by
    rintro b (hb | hb)
    · exact (h.own b).1 hb
    · cases hft : f th with
      | false => exact absurd hb ((h0 hft).2 b)
      | true => rw [(h.own b).2 th hb, if_pos hft]
  have hthr : ∀ i, th ≠ i → s'.ths.getD i Th.zero = s.ths.getD i Th.zero := by intro i hi; rw [hths, getD_set_ne _ _ _ _ _ hi]
  have hlen : s'.ths.length = s.ths.length := by rw [hths, List.length_set]
  refine ⟨by rw [hv]; exact h.vars, by rw [hlen]; exact h.nt, by rw [hn]; exact h.ns, by have := h.clk; omega, fun b => by have := h.ver b; have := hver b; omega, fun b => ?_, fun i hi hfi => ?_, fun i hi hfi => ?_, fun i hi hfi hx => ?_⟩
  · rcases hown b with e | ⟨e1, e2⟩
    · rw [e]
      refine ⟨(h.own b).1, fun i hi => ?_⟩
      by_cases hti : i = th
      · subst hti; rw [if_pos hf]; exact hmine b (Or.inr hi)
      · rw [hff i hti]; exact (h.own b).2 i hi
    · refine ⟨fun _ => hmine b e1, fun i hi => ?_⟩
      have : i = th := by omega
      subst this
      rw [if_pos hf]; exact hmine b e1
  · have hti : th ≠ i := by intro e; subst e; rw [hf] at hfi; cases hfi
    rw [hthr i hti]; exact h.same i (by omega) (by rw [← hff i (Ne.symm hti)]; exact hfi)
  · by_cases hti : th = i
    · subst hti
      rw [hths, getD_set_eq _ _ _ _ hlt]
      cases hft : f th with
      | true =>
        refine ⟨(h.rest th hlt hft).1, fun hg' => ?_⟩
        obtain ⟨c1, c2⟩ := hc hg'
        rw [c2]; exact (h.rest th hlt hft).2 c1
      | false =>
        rw [h.same th hlt hft]
        exact ⟨(h0 hft).1, fun hg' => (hc hg').2.symm⟩
    · rw [hthr i hti, hgg i (Ne.symm hti)]; exact h.rest i (by omega) (by rw [← hff i (Ne.symm hti)]; exact hfi)
  · have hti : th ≠ i := by intro e; subst e; rw [hf] at hfi; cases hfi
    rw [hthr i hti] at hx ⊢; exact h.look i (by omega) (by rw [← hff i (Ne.symm hti)]; exact hfi) hx
/-- An event that stays: both turn alike. -/
theorem SimG.keep {s r s' r' : Sh} {f f' g g' : Nat → Bool} (h : SimG s r f g) {th : Nat} {t' : Th} (hlt : th < s.ths.length) (hths : s'.ths = s.ths.set th t') (hrths : r'.ths = r.ths.set th t') (hv : s'.vars = s.vars) (hrv : r'.vars = r.vars) (hclk : r'.clock ≤ s'.clock)
    (hf : f' th = false) (hff : ∀ i, i ≠ th → f' i = f i) (hgg : ∀ i, i ≠ th → g' i = g i) (h0 : f th = true → ∀ b, stO s b ≠ (th : Int))
    (hst : (s'.sts = s.sts ∧ r'.sts = r.sts) ∨ ∃ a p q, s'.sts = s.sts.set a p ∧ r'.sts = r.sts.set a q ∧ a < s.sts.length ∧ (p.1 = -1 ∨ p.1 = (th : Int)) ∧ q.1 = p.1 ∧ q.2 ≤ p.2 ∧ stV r a ≤ q.2)
    (hl : t'.at_ = 2 → t'.v ≤ stV r' t'.stripe.toNat) : SimG s' r' f' g' := by
  have hthr : ∀ i, th ≠ i → s'.ths.getD i Th.zero = s.ths.getD i Th.zero := by intro i hi; rw [hths, getD_set_ne _ _ _ _ _ hi]
  have hthr' : ∀ i, th ≠ i → r'.ths.getD i Th.zero = r.ths.getD i Th.zero := by intro i hi; rw [hrths, getD_set_ne _ _ _ _ _ hi]
  have hlen : s'.ths.length = s.ths.length := by rw [hths, List.length_set]
  have hn : s'.sts.length = s.sts.length ∧ r'.sts.length = r.sts.length := by
    rcases hst with ⟨e1, e2⟩ | ⟨a, p, q, e1, e2, -⟩ <;> rw [e1, e2] <;> simp
  have hver : ∀ b, stV r' b ≤ stV s' b ∧ stV r b ≤ stV r' b := by
    intro b
    have h1 := h.ver b
    rcases hst with ⟨e1, e2⟩ | ⟨a, p, q, e1, e2, ha, -, -, hq, hq2⟩
    · unfold stV at *; rw [e1, e2]; exact ⟨h1, Int.le_refl _⟩
    · unfold stV at *; rw [e1, e2]
      by_cases hab : a = b
      · subst hab
        rw [getD_set_eq _ _ _ _ ha, getD_set_eq _ _ _ _ (by rw [h.ns]; exact ha)]; exact ⟨hq, hq2⟩
      · rw [getD_set_ne _ _ _ _ _ hab, getD_set_ne _ _ _ _ _ hab]; exact ⟨h1, Int.le_refl _⟩
  have hown0 : ∀ b, (stO s b = -1 → stO r b = -1) ∧ ∀ i : Nat, stO s b = (i : Int) → stO r b = if f' i = true then -1 else (i : Int) := by
    intro b
    refine ⟨(h.own b).1, fun i hi => ?_⟩
    by_cases hti : i = th
    · subst hti
      cases hft : f i with
      | false => have := (h.own b).2 i hi; rw [hft] at this; rw [hf]; exact this
      | true => exact absurd hi (h0 hft b)
    · rw [hff i hti]; exact (h.own b).2 i hi
  refine ⟨by rw [hv, hrv]; exact h.vars, by rw [hlen, hrths, List.length_set]; exact h.nt, by rw [hn.1, hn.2]; exact h.ns, hclk, fun b => (hver b).1, fun b => ?_, fun i hi hfi => ?_, fun i hi hfi => ?_, fun i hi hfi hx => ?_⟩
  · rcases hst with ⟨e1, e2⟩ | ⟨a, p, q, e1, e2, ha, hp, hqp, -⟩
    · have := hown0 b; unfold stO at *; rw [e1, e2]; exact this
    · by_cases hab : a = b
      · subst hab
        unfold stO; rw [e1, e2, getD_set_eq _ _ _ _ ha, getD_set_eq _ _ _ _ (by rw [h.ns]; exact ha), hqp]
        refine ⟨fun h1 => h1, fun i hi => ?_⟩
        have : i = th := by omega
        subst this
        rw [hf]; exact hi
      · have := hown0 b; unfold stO at *; rw [e1, e2, getD_set_ne _ _ _ _ _ hab, getD_set_ne _ _ _ _ _ hab]; exact this
  · by_cases hti : th = i
    · subst hti; rw [hths, hrths, getD_set_eq _ _ _ _ hlt, getD_set_eq _ _ _ _ (by rw [h.nt]; exact hlt)]
    · rw [hthr i hti, hthr' i hti]; exact h.same i (by omega) (by rw [← hff i (Ne.symm hti)]; exact hfi)
  · have hti : th ≠ i := by intro e; subst e; rw [hf] at hfi; cases hfi
    rw [hthr i hti, hthr' i hti, hgg i (Ne.symm hti)]; exact h.rest i (by omega) (by rw [← hff i (Ne.symm hti)]; exact hfi)
  · by_cases hti : th = i
    · subst hti; rw [hths, getD_set_eq _ _ _ _ hlt] at hx ⊢; exact hl hx
    · rw [hthr i hti] at hx ⊢
      have := h.look i (by omega) (by rw [← hff i (Ne.symm hti)]; exact hfi) hx
      have := (hver (s.ths.getD i Th.zero).stripe.toNat).2
      omega
theorem stsG_step {s s' : Sh} {e : Ev} (hw : Wf s) (hm : Mon s) (h : stepS s e = some s') (b : Nat) : stV s b ≤ stV s' b ∧ (stO s' b = stO s b ∨ ((stO s b = -1 ∨ stO s b = e.th) ∧ (stO s' b = -1 ∨ stO s' b = e.th))) := by
  obtain ⟨th, hthe, htn, hlt, -, hk, hat, hatS, hmod, hv, hd⟩ := stepS_inv hw h
  have ht := hw.th th hlt
  have hA := hm.a th hlt
  generalize s.ths.getD th Th.zero = t at hd ht hA
  unfold doesS at hd
  by_cases k1 : e.kind = 1
  · rw [if_pos k1] at hd
    unfold beginS at hd; split at hd
    case isFalse => cases hd
    cases hd; exact ⟨Int.le_refl _, Or.inl rfl⟩
  rw [if_neg k1] at hd
  by_cases k2 : e.kind = 2
  · rw [if_pos k2] at hd
    unfold lookS at hd; split at hd
    case isFalse => cases hd
    rename_i hc
    cases hd
    obtain ⟨h1, h2⟩ := hatS (by omega) (by omega)
    rw [stV_set h2, stO_set h2]
    split
    · rename_i hb; subst hb; exact ⟨hc.2.2.1, Or.inl hc.2.1.symm⟩
    · exact ⟨Int.le_refl _, Or.inl rfl⟩
  rw [if_neg k2] at hd
  by_cases k3 : e.kind = 3
  · rw [if_pos k3] at hd
    unfold loadS at hd; split at hd
    case isFalse => cases hd
    cases hd; exact ⟨Int.le_refl _, Or.inl rfl⟩
  rw [if_neg k3] at hd
  by_cases k4 : e.kind = 4
  · rw [if_pos k4] at hd
    unfold lockS at hd; split at hd
    case isFalse => cases hd
    rename_i hc
    cases hd
    obtain ⟨h1, h2⟩ := hatS (by omega) (by omega)
    rw [stV_set h2, stO_set h2]
    split
    · rename_i hb; subst hb; exact ⟨Int.le_refl _, Or.inr ⟨Or.inl hc.2.2, Or.inr rfl⟩⟩
    · exact ⟨Int.le_refl _, Or.inl rfl⟩
  rw [if_neg k4] at hd
  by_cases k5 : e.kind = 5
  · rw [if_pos k5] at hd
    unfold bumpS at hd; split at hd
    case isFalse => cases hd
    cases hd; exact ⟨Int.le_refl _, Or.inl rfl⟩
  rw [if_neg k5] at hd
  by_cases k6 : e.kind = 6
  · rw [if_pos k6] at hd
    unfold checkS at hd; split at hd
    case isFalse => cases hd
    cases hd; exact ⟨Int.le_refl _, Or.inl rfl⟩
  rw [if_neg k6] at hd
  by_cases k7 : e.kind = 7
  · rw [if_pos k7] at hd
    unfold commitS at hd; split at hd
    · cases hd; exact ⟨Int.le_refl _, Or.inl rfl⟩
    split at hd
    · cases hd; exact ⟨Int.le_refl _, Or.inl rfl⟩
    cases hd
  rw [if_neg k7] at hd
  by_cases k8 : e.kind = 8
  · rw [if_pos k8] at hd
    unfold storeS at hd; split at hd
    case isFalse => cases hd
    cases hd; exact ⟨Int.le_refl _, Or.inl rfl⟩
  rw [if_neg k8] at hd
  by_cases k9 : e.kind = 9
  · rw [if_pos k9] at hd
    unfold freedS at hd; split at hd
    case isFalse => cases hd
    rename_i hc
    cases hd
    obtain ⟨h1, h2⟩ := hatS (by omega) (by omega)
    have hbit : t.owned.testBit e.at_.toNat = true := by
      have : e.at_.toNat = leastb t.owned := by omega
      rw [this]; exact leastb_some (by omega)
    have hlt' := hA (by omega) _ hbit
    rw [stV_set h2, stO_set h2]
    split
    · rename_i hb; subst hb
      exact ⟨Int.le_of_lt hlt', Or.inr ⟨Or.inr (by rw [hthe]; exact (ht.own _ hbit).2), Or.inl rfl⟩⟩
    · exact ⟨Int.le_refl _, Or.inl rfl⟩
  rw [if_neg k9] at hd
  by_cases k10 : e.kind = 10
  · rw [if_pos k10] at hd
    unfold abortS at hd; split at hd
    case isFalse => cases hd
    cases hd; exact ⟨Int.le_refl _, Or.inl rfl⟩
  rw [if_neg k10] at hd
  by_cases k11 : e.kind = 11
  · rw [if_pos k11] at hd
    unfold undoS at hd; split at hd
    case isFalse => cases hd
    rename_i hc
    cases hd
    obtain ⟨h1, h2⟩ := hatS (by omega) (by omega)
    have hbit : t.owned.testBit e.at_.toNat = true := by
      have : e.at_.toNat = leastb t.owned := by omega
      rw [this]; exact leastb_some (by omega)
    rw [stV_set h2, stO_set h2]
    split
    · rename_i hb; subst hb
      exact ⟨Int.le_refl _, Or.inr ⟨Or.inr (by rw [hthe]; exact (ht.own _ hbit).2), Or.inl rfl⟩⟩
    · exact ⟨Int.le_refl _, Or.inl rfl⟩
  rw [if_neg k11] at hd
  by_cases k12 : e.kind = 12
  · rw [if_pos k12] at hd
    unfold waitS at hd; split at hd
    case isFalse => cases hd
    cases hd; exact ⟨Int.le_refl _, Or.inl rfl⟩
  rw [if_neg k12] at hd
  unfold wakeS at hd; split at hd
  case isFalse => cases hd
  cases hd; exact ⟨Int.le_refl _, Or.inl rfl⟩

theorem simG_drop {s r s1 : Sh} {f f' g g' : Nat → Bool} {e : Ev} (hw : Wf s) (hm : Mon s) (h : SimG s r f g) (hs : stepS s e = some s1)
    (hf : f' e.th.toNat = true) (hff : ∀ i : Nat, (i : Int) ≠ e.th → f' i = f i) (hgg : ∀ i : Nat, (i : Int) ≠ e.th → g' i = g i) (h1 : e.kind ≠ 1 → f e.th.toNat = true) (hc : g' e.th.toNat = false → g e.th.toNat = false ∧ e.kind ≠ 7 ∧ e.kind ≠ 9) : SimG s1 r f' g' := by
  obtain ⟨th, t', e1, e2, e3, e4, e5, hmv, hcm, hck⟩ := at_step hw hs
  have htn : e.th.toNat = th := by omega
  rw [htn] at hf hc h1
  refine h.drop e2 e3 e4 e5 hck hf (fun i hi => hff i (by omega)) (fun i hi => hgg i (by omega)) (fun hg' => ⟨(hc hg').1, hcm (hc hg').2.1 (hc hg').2.2⟩) (fun hft => ?_) (fun b => (stsG_step hw hm hs b).1) (fun b => ?_)
  · by_cases k1 : e.kind = 1
    · have h0 : (s.ths.getD th Th.zero).at_ = 0 := by unfold Moves at hmv; omega
      refine ⟨h0, fun b hb => ?_⟩
      have := hm.c b th hb
      rw [(hw.th th e2).idle (Or.inl h0), Nat.zero_testBit] at this
      cases this
    · rw [h1 k1] at hft; cases hft
  · have := (stsG_step hw hm hs b).2
    rw [e1] at this; exact this
theorem simG_keep {s r s1 : Sh} {f f' g g' : Nat → Bool} {e : Ev} (hw : Wf s) (hm : Mon s) (h : SimG s r f g) (hs : stepS s e = some s1)
    (hf : f' e.th.toNat = false) (hffI : ∀ i : Nat, (i : Int) ≠ e.th → f' i = f i) (hggI : ∀ i : Nat, (i : Int) ≠ e.th → g' i = g i) (hb1 : e.kind = 1 → g e.th.toNat = false) (hk1 : e.kind ≠ 1 → f e.th.toNat = false) (hk : e.kind ≠ 10 ∧ e.kind ≠ 11 ∧ e.kind ≠ 12 ∧ e.kind ≠ 13) : ∃ r1, stepS r e = some r1 ∧ SimG s1 r1 f' g' := by
  obtain ⟨th, hthe, htn, hlt, hmay, hk13, hat, hatS, hmod, hv, hd⟩ := stepS_inv hw hs
  have ht := hw.th th hlt
  have hA := hm.a th hlt
  have hC := fun b => hm.c b th
  rw [htn] at hf hb1 hk1
  have hn : r.n = s.n := by unfold Sh.n; rw [h.ns]
  have hmr : mayE e r.ths.length r.vars r.n = true := by rw [h.nt, h.vars, hn]; exact hmay
  have hR : r.th e.th = r.ths.getD th Th.zero := by unfold Sh.th; rw [htn]
  have R : ∀ (x q : Sh) (t' : Th), q.ths = x.ths → (q.setTh e.th t').ths = x.ths.set th t' := by intro x q t' h1; simp only [Sh.setTh, h1, htn]
  have hff : ∀ i, i ≠ th → f' i = f i := fun i hi => hffI i (by omega)
  have hgg : ∀ i, i ≠ th → g' i = g i := fun i hi => hggI i (by omega)
  have hsame := h.same th hlt
  have hrest := h.rest th hlt
  have hlook := h.look th hlt
  unfold stepS
  rw [if_pos hmr, hR]
  generalize hgt : s.ths.getD th Th.zero = t at hd ht hA hC hsame hrest hlook
  unfold doesS at hd ⊢
  by_cases k1 : e.kind = 1
  · rw [if_pos k1] at hd ⊢
    unfold beginS at hd ⊢; split at hd
    case isFalse => cases hd
    rename_i hc
    cases hd
    have hr0 : (r.ths.getD th Th.zero).at_ = 0 ∧ (r.ths.getD th Th.zero).commits = t.commits := by
      cases hft : f th with
      | false => rw [hsame hft]; exact ⟨hc.1, rfl⟩
      | true => exact ⟨(hrest hft).1, (hrest hft).2 (hb1 k1)⟩
    have hclk := h.clk
    rw [if_pos ⟨hr0.1, by rw [hr0.2]; exact hc.2.1, by omega⟩, hr0.2]
    refine ⟨_, rfl, h.keep hlt (R s { s with clock := e.v } _ rfl) (R r { r with clock := e.v } _ rfl) rfl rfl (Int.le_refl _) hf hff hgg (fun _ b hb => ?_) (Or.inl ⟨rfl, rfl⟩) (by simp)⟩
    have := hC b hb
    rw [ht.idle (Or.inl hc.1), Nat.zero_testBit] at this
    cases this
  have hfo := hk1 k1
  rw [hsame hfo]
  have hlook := hlook hfo
  have h0 : f th = true → ∀ b, stO s b ≠ (th : Int) := by intro hx; rw [hfo] at hx; cases hx
  have hclk := h.clk
  -- only the thread's record turns
  have K0 : ∀ (t' : Th), (t'.at_ = 2 → t'.v ≤ stV r t'.stripe.toNat) → SimG (s.setTh e.th t') (r.setTh e.th t') f' g' := fun t' hl =>
    h.keep hlt (R s s _ rfl) (R r r _ rfl) rfl rfl hclk hf hff hgg h0 (Or.inl ⟨rfl, rfl⟩) hl
  rw [if_neg k1] at hd ⊢
  by_cases k2 : e.kind = 2
  · rw [if_pos k2] at hd ⊢
    unfold lookS at hd ⊢; split at hd
    case isFalse => cases hd
    rename_i hc
    cases hd
    obtain ⟨h1, h2⟩ := hatS (by omega) (by omega)
    have ho : r.own e.at_ = -1 := (h.own e.at_.toNat).1 hc.2.1
    have hvr : stV r e.at_.toNat ≤ stV s e.at_.toNat := h.ver _
    have hvs : stV s e.at_.toNat = s.ver e.at_ := rfl
    have hvr' : stV r e.at_.toNat = r.ver e.at_ := rfl
    rw [if_pos ⟨hc.1, ho, by omega, hc.2.2.2⟩]
    refine ⟨_, rfl, h.keep hlt (R s (s.setSt e.at_ (-1, e.v)) _ rfl) (R r (r.setSt e.at_ (-1, e.v)) _ rfl) rfl rfl hclk hf hff hgg h0 (Or.inr ⟨e.at_.toNat, (-1, e.v), (-1, e.v), rfl, rfl, h2, Or.inl rfl, rfl, Int.le_refl _, by simp only; omega⟩) (fun _ => ?_)⟩
    show e.v ≤ _
    rw [stV_set (by rw [h.ns]; exact h2), if_pos rfl]
    exact Int.le_refl _
  rw [if_neg k2] at hd ⊢
  by_cases k3 : e.kind = 3
  · rw [if_pos k3] at hd ⊢
    unfold loadS at hd ⊢; split at hd
    case isFalse => cases hd
    rename_i hc
    cases hd
    have ho : r.own t.stripe = -1 := (h.own t.stripe.toNat).1 hc.2.2.1
    have hvr : stV r t.stripe.toNat ≤ stV s t.stripe.toNat := h.ver _
    have hvs : stV s t.stripe.toNat = s.ver t.stripe := rfl
    have hvr' : stV r t.stripe.toNat = r.ver t.stripe := rfl
    have := hlook hc.1
    rw [if_pos ⟨hc.1, by rw [hn]; exact hc.2.1, ho, by omega⟩]
    exact ⟨_, rfl, K0 _ (by simp)⟩
  rw [if_neg k3] at hd ⊢
  by_cases k4 : e.kind = 4
  · rw [if_pos k4] at hd ⊢
    unfold lockS at hd ⊢; split at hd
    case isFalse => cases hd
    rename_i hc
    cases hd
    obtain ⟨h1, h2⟩ := hatS (by omega) (by omega)
    have ho : r.own e.at_ = -1 := (h.own e.at_.toNat).1 hc.2.2
    rw [if_pos ⟨hc.1, hc.2.1, ho⟩]
    exact ⟨_, rfl, h.keep hlt (R s (s.setSt e.at_ (e.th, s.ver e.at_)) _ rfl) (R r (r.setSt e.at_ (e.th, r.ver e.at_)) _ rfl) rfl rfl hclk hf hff hgg h0 (Or.inr ⟨e.at_.toNat, (e.th, s.ver e.at_), (e.th, r.ver e.at_), rfl, rfl, h2, Or.inr hthe, rfl, h.ver _, Int.le_refl _⟩) (by simp)⟩
  rw [if_neg k4] at hd ⊢
  by_cases k5 : e.kind = 5
  · rw [if_pos k5] at hd ⊢
    unfold bumpS at hd ⊢; split at hd
    case isFalse => cases hd
    rename_i hc
    cases hd
    rw [if_pos ⟨hc.1, by omega⟩]
    exact ⟨_, rfl, h.keep hlt (R s { s with clock := e.v } _ rfl) (R r { r with clock := e.v } _ rfl) rfl rfl (Int.le_refl _) hf hff hgg h0 (Or.inl ⟨rfl, rfl⟩) (by simp)⟩
  rw [if_neg k5] at hd ⊢
  by_cases k6 : e.kind = 6
  · rw [if_pos k6] at hd ⊢
    unfold checkS at hd ⊢; split at hd
    case isFalse => cases hd
    rename_i hc
    cases hd
    have hvr : stV r e.at_.toNat ≤ stV s e.at_.toNat := h.ver _
    have hvs : stV s e.at_.toNat = s.ver e.at_ := rfl
    have hvr' : stV r e.at_.toNat = r.ver e.at_ := rfl
    have ho : r.oth e.at_ e.th = false := by
      have h3 := hc.2.2.1
      unfold Sh.oth at h3 ⊢
      rw [decide_eq_false_iff_not] at h3 ⊢
      intro ⟨h4, h5⟩
      apply h3
      have ho1 := h.own e.at_.toNat
      have e1 : stO s e.at_.toNat = s.own e.at_ := rfl
      have e2 : stO r e.at_.toNat = r.own e.at_ := rfl
      rw [e1, e2] at ho1
      refine ⟨fun h6 => h4 (ho1.1 h6), fun h6 => h5 ?_⟩
      have := ho1.2 th (by omega)
      rw [hfo] at this
      simpa [hthe] using this
    rw [if_pos ⟨hc.1, hc.2.1, ho, by omega⟩]
    exact ⟨_, rfl, K0 _ (fun hx => by have := hc.1; simp only at hx; omega)⟩
  rw [if_neg k6] at hd ⊢
  by_cases k7 : e.kind = 7
  · rw [if_pos k7] at hd ⊢
    unfold commitS at hd ⊢; split at hd
    · rename_i hc
      cases hd
      rw [if_pos hc]
      exact ⟨_, rfl, K0 _ (by simp)⟩
    rename_i hc0
    split at hd
    · rename_i hc
      cases hd
      rw [if_neg hc0, if_pos hc]
      exact ⟨_, rfl, K0 _ (by simp)⟩
    cases hd
  rw [if_neg k7] at hd ⊢
  by_cases k8 : e.kind = 8
  · rw [if_pos k8] at hd ⊢
    unfold storeS at hd ⊢; split at hd
    case isFalse => cases hd
    rename_i hc
    cases hd
    rw [if_pos ⟨hc.1, hc.2.1, by rw [hn]; exact hc.2.2⟩, hn]
    exact ⟨_, rfl, K0 _ (fun hx => by have := hc.1; simp only at hx; omega)⟩
  rw [if_neg k8] at hd ⊢
  have k9 : e.kind = 9 := by omega
  rw [if_pos k9] at hd ⊢
  unfold freedS at hd ⊢; split at hd
  case isFalse => cases hd
  rename_i hc
  cases hd
  obtain ⟨h1, h2⟩ := hatS (by omega) (by omega)
  have hbit : t.owned.testBit e.at_.toNat = true := by
    have : e.at_.toNat = leastb t.owned := by omega
    rw [this]; exact leastb_some (by omega)
  have hlt' := hA (by omega) _ hbit
  have hvr : stV r e.at_.toNat ≤ stV s e.at_.toNat := h.ver _
  rw [if_pos hc]
  refine ⟨_, rfl, h.keep hlt (R s (s.setSt e.at_ (-1, t.wv)) _ rfl) (R r (r.setSt e.at_ (-1, t.wv)) _ rfl) rfl rfl hclk hf hff hgg h0 (Or.inr ⟨e.at_.toNat, (-1, t.wv), (-1, t.wv), rfl, rfl, h2, Or.inl rfl, rfl, Int.le_refl _, by simp only; omega⟩) (fun hx => ?_)⟩
  split at hx <;> simp at hx

theorem simG_new (T V S : Int) : SimG (newS T V S) (newS T V S) (fun _ => false) (fun _ => false) := by
  refine ⟨rfl, rfl, rfl, Int.le_refl _, fun _ => Int.le_refl _, fun b => ⟨fun h => h, fun i h => by rw [if_neg (by decide)]; exact h⟩, fun _ _ _ => rfl, fun _ _ h => (by cases h), fun i hi _ hx => ?_⟩
  have e : (newS T V S).ths.getD i Th.zero = Th.zero := by simp only [newS, List.getD_eq_getElem?_getD, List.getElem?_replicate]; split <;> rfl
  rw [e] at hx; simp [Th.zero] at hx
end Go.Proofs.YtnmbacleaijhmaaDoor
/-
  The history of a slice: the attempts that are kept, as they were. Nothing of the program.
-/
namespace Go.Proofs.YtnmbacleaijhmaaDoor
set_option linter.unusedVariables false
set_option linter.unusedSimpArgs false
set_option linter.unusedVariables false
/-- How many of K are below a number. -/
def posK (K : List Nat) (m : Nat) : Nat := (List.range m).countP fun i => decide (i ∈ K)
theorem posK_zero (K : List Nat) : posK K 0 = 0 := rfl
theorem posK_succ (K : List Nat) (m : Nat) : posK K (m + 1) = posK K m + if m ∈ K then 1 else 0 := by
  unfold posK
  rw [List.range_succ, List.countP_append]
  by_cases h : m ∈ K <;> simp [h]
theorem posK_mono (K : List Nat) {m n : Nat} (h : m ≤ n) : posK K m ≤ posK K n := by
  induction n with
  | zero => rw [Nat.le_zero.1 h]; exact Nat.le_refl _
  | succ n ih =>
    by_cases he : m = n + 1
    · rw [he]; exact Nat.le_refl _
    · have := ih (by omega)
      rw [posK_succ]; omega
theorem posK_lt {K : List Nat} {m n : Nat} (hm : m ∈ K) (h : m < n) : posK K m < posK K n := by
  have h1 := posK_mono K (show m + 1 ≤ n from h)
  rw [posK_succ, if_pos hm] at h1
  omega
theorem posK_inj {K : List Nat} {m n : Nat} (hm : m ∈ K) (hn : n ∈ K) (h : posK K m = posK K n) : m = n := by
  rcases Nat.lt_trichotomy m n with h1 | h1 | h1
  · have := posK_lt hm h1; omega
  · exact h1
  · have := posK_lt hn h1; omega
/-- An attempt of the slice (a) is one of the trace (b). -/
structure AttR (a b : Att) : Prop where
  th : a.th = b.th
  tx : a.tx = b.tx
  rv : a.rv = b.rv
  wv : a.wv = b.wv
  com : a.com = b.com
  rds : a.reads = b.reads
  wrs : a.writes = b.writes
  to_ : a.to_ = -1 ↔ b.to_ = -1
theorem AttR.turn {a b : Att} (h : AttR a b) (o : Int) (e : Ev) {n n' : Int} (hn : 0 ≤ n) (hn' : 0 ≤ n') : AttR (turnA a o e n') (turnA b o e n) := by
  obtain ⟨h1, h2, h3, h4, h5, h6, h7, h8⟩ := h
  have ht : ∀ q : Int, ((if q = 0 then n' else a.to_) = -1 ↔ (if q = 0 then n else b.to_) = -1) := by
    intro q
    by_cases hq : q = 0
    · rw [if_pos hq, if_pos hq]; omega
    · rw [if_neg hq, if_neg hq]; exact h8
  unfold turnA
  split
  · exact ⟨h1, h2, h3, h4, h5, by show a.reads ++ _ = b.reads ++ _; rw [h6], h7, h8⟩
  · split
    · exact ⟨h1, h2, h3, h4, h5, h6, by show a.writes ++ _ = b.writes ++ _; rw [h7], h8⟩
    · split
      · exact ⟨h1, h2, h3, rfl, rfl, h6, h7, ht o⟩
      · split
        · exact ⟨h1, h2, h3, h4, h5, h6, h7, ht (o - 1)⟩
        · split
          · exact ⟨h1, h2, h3, h4, h5, h6, h7, ht o⟩
          · split
            · exact ⟨h1, h2, h3, h4, h5, h6, h7, by show n' = -1 ↔ n = -1; omega⟩
            · exact ⟨h1, h2, h3, h4, h5, h6, h7, h8⟩
theorem turnA_th (a : Att) (o : Int) (e : Ev) (n : Int) : (turnA a o e n).th = a.th := by unfold turnA; (repeat' split) <;> rfl
theorem turnA_com (a : Att) (o : Int) (e : Ev) (n : Int) : (turnA a o e n).com = (a.com || decide (e.kind = 7)) := by
  unfold turnA
  by_cases h7 : e.kind = 7
  · rw [if_neg (by omega), if_neg (by omega), if_pos h7]; simp [h7]
  · rw [decide_eq_false h7, Bool.or_false]
    (repeat' split) <;> first | rfl | omega
/-- The history of the slice (h') beside that of the trace (h). -/
structure HRel (K : List Nat) (h h' : HS) : Prop where
  olen : h.owned.length = h.out.length
  olen' : h'.owned.length = h'.out.length
  len : h'.out.length = posK K h.out.length
  att : ∀ m, m ∈ K → m < h.out.length → ∃ a b, h'.out[posK K m]? = some a ∧ h.out[m]? = some b ∧ AttR a b
  own : ∀ m, m ∈ K → m < h.out.length → h'.owned[posK K m]? = h.owned[m]?
  last : ∀ i : Int, h.last i ∈ K → ∀ b, h.out[h.last i]? = some b → b.th = i → h'.last i = posK K (h.last i)
variable {K : List Nat} {h h' : HS} {n n' : Int} {e : Ev}
theorem stepH_begin (h : HS) (n : Int) {e : Ev} (k1 : e.kind = 1) : stepH h n e = ⟨updN h.last e.th h.out.length, h.out ++ [newA e n], h.owned ++ [0]⟩ := by unfold stepH; rw [if_pos k1]
theorem HRel.begin_drop (H : HRel K h h') (k1 : e.kind = 1) (hj : h.out.length ∉ K) : HRel K (stepH h n e) h' := by
  rw [stepH_begin h n k1]
  refine ⟨by simp [H.olen], H.olen', ?_, fun m hm hlt => ?_, fun m hm hlt => ?_, fun i hi b hb ht => ?_⟩
  · rw [H.len]; simp [posK_succ, hj]
  · have hne : m ≠ h.out.length := fun e => hj (e ▸ hm)
    have hlt' : m < h.out.length := by simp at hlt; omega
    obtain ⟨a, b, h1, h2, h3⟩ := H.att m hm hlt'
    exact ⟨a, b, h1, by show (h.out ++ [newA e n])[m]? = some b; rw [List.getElem?_append_left hlt']; exact h2, h3⟩
  · have hne : m ≠ h.out.length := fun e => hj (e ▸ hm)
    have hlt' : m < h.out.length := by simp at hlt; omega
    show _ = (h.owned ++ [0])[m]?
    rw [List.getElem?_append_left (by rw [H.olen]; exact hlt')]
    exact H.own m hm hlt'
  · have hi : updN h.last e.th h.out.length i ∈ K := hi
    have hb : (h.out ++ [newA e n])[updN h.last e.th h.out.length i]? = some b := hb
    show h'.last i = posK K (updN h.last e.th h.out.length i)
    unfold updN at hi hb ⊢
    by_cases he : i = e.th
    · rw [if_pos he] at hi; exact absurd hi hj
    · rw [if_neg he] at hi hb ⊢
      rcases getElem?_snoc_cases hb with ⟨h1, rfl⟩ | ⟨h1, h2⟩
      · rw [h1] at hi; exact absurd hi hj
      · exact H.last i hi b h2 ht
theorem HRel.begin_keep (H : HRel K h h') (k1 : e.kind = 1) (hj : h.out.length ∈ K) : HRel K (stepH h n e) (stepH h' n' e) := by
  rw [stepH_begin h n k1, stepH_begin h' n' k1]
  refine ⟨by simp [H.olen], by simp [H.olen'], ?_, fun m hm hlt => ?_, fun m hm hlt => ?_, fun i hi b hb ht => ?_⟩
  · simp [posK_succ, hj, H.len]
  · show ∃ a b, (h'.out ++ [newA e n'])[posK K m]? = some a ∧ (h.out ++ [newA e n])[m]? = some b ∧ AttR a b
    by_cases he : m = h.out.length
    · subst he
      refine ⟨newA e n', newA e n, ?_, ?_, ⟨rfl, rfl, rfl, rfl, rfl, rfl, rfl, Iff.rfl⟩⟩
      · rw [← H.len]; simp
      · simp
    · have hlt' : m < h.out.length := by simp at hlt; omega
      obtain ⟨a, b, h1, h2, h3⟩ := H.att m hm hlt'
      exact ⟨a, b, by rw [List.getElem?_append_left (List.getElem?_eq_some_iff.1 h1).1]; exact h1, by rw [List.getElem?_append_left hlt']; exact h2, h3⟩
  · show (h'.owned ++ [0])[posK K m]? = (h.owned ++ [0])[m]?
    by_cases he : m = h.out.length
    · subst he
      rw [← H.len, ← H.olen', ← H.olen]; simp
    · have hlt' : m < h.out.length := by simp at hlt; omega
      have hp := posK_lt hm hlt'
      rw [List.getElem?_append_left (by rw [H.olen', H.len]; exact hp), List.getElem?_append_left (by rw [H.olen]; exact hlt')]
      exact H.own m hm hlt'
  · have hi : updN h.last e.th h.out.length i ∈ K := hi
    have hb : (h.out ++ [newA e n])[updN h.last e.th h.out.length i]? = some b := hb
    show updN h'.last e.th h'.out.length i = posK K (updN h.last e.th h.out.length i)
    unfold updN at hi hb ⊢
    by_cases he : i = e.th
    · rw [if_pos he, if_pos he]; exact H.len
    · rw [if_neg he] at hi hb
      rw [if_neg he, if_neg he]
      rcases getElem?_snoc_cases hb with ⟨h1, rfl⟩ | ⟨h1, h2⟩
      · exact absurd ht.symm he
      · exact H.last i hi b h2 ht
theorem HRel.mid_drop (H : HRel K h h') {m : Nat} {a : Att} {o : Int} (hl : h.last e.th = m) (ha : h.out[m]? = some a) (hm : m ∉ K) : HRel K ⟨h.last, h.out.set m (turnA a o e n), h.owned.set m (turnO o e)⟩ h' := by
  refine ⟨by simp [H.olen], H.olen', by simp [H.len], fun j hj hlt => ?_, fun j hj hlt => ?_, fun i hi b hb ht => ?_⟩
  · have hne : m ≠ j := fun e => hm (e ▸ hj)
    obtain ⟨x, b, h1, h2, h3⟩ := H.att j hj (by simpa using hlt)
    exact ⟨x, b, h1, by show (h.out.set m _)[j]? = some b; rw [List.getElem?_set_ne hne]; exact h2, h3⟩
  · have hne : m ≠ j := fun e => hm (e ▸ hj)
    show _ = (h.owned.set m _)[j]?
    rw [List.getElem?_set_ne hne]
    exact H.own j hj (by simpa using hlt)
  · have hi : h.last i ∈ K := hi
    have hb : (h.out.set m (turnA a o e n))[h.last i]? = some b := hb
    have hne : m ≠ h.last i := fun e => hm (e ▸ hi)
    rw [List.getElem?_set_ne hne] at hb
    exact H.last i hi b hb ht
theorem HRel.mid_keep (H : HRel K h h') (k1 : e.kind ≠ 1) (k13 : e.kind ≠ 13) {m : Nat} {b : Att} {o : Int} (hl : h.last e.th = m) (hb : h.out[m]? = some b) (ho : h.owned[m]? = some o) (hth : b.th = e.th) (hm : m ∈ K) (hn : 0 ≤ n) (hn' : 0 ≤ n') : HRel K ⟨h.last, h.out.set m (turnA b o e n), h.owned.set m (turnO o e)⟩ (stepH h' n' e) := by
  have hlt := (List.getElem?_eq_some_iff.1 hb).1
  obtain ⟨a, b', h1, h2, h3⟩ := H.att m hm hlt
  rw [hb] at h2; cases h2
  have hlast : h'.last e.th = posK K m := by have := H.last e.th (by rw [hl]; exact hm) b (by rw [hl]; exact hb) hth; rw [hl] at this; exact this
  have hown := H.own m hm hlt
  rw [ho] at hown
  have hp := (List.getElem?_eq_some_iff.1 h1).1
  have hs : stepH h' n' e = ⟨h'.last, h'.out.set (posK K m) (turnA a o e n'), h'.owned.set (posK K m) (turnO o e)⟩ := by
    unfold stepH
    rw [if_neg k1, if_neg k13, hlast, getD_of_get? h1, getD_of_get? hown]
  rw [hs]
  refine ⟨by simp [H.olen], by simp [H.olen'], by simp [H.len], fun j hj hjl => ?_, fun j hj hjl => ?_, fun i hi c hc ht => ?_⟩
  · show ∃ x y, (h'.out.set (posK K m) (turnA a o e n'))[posK K j]? = some x ∧ (h.out.set m (turnA b o e n))[j]? = some y ∧ AttR x y
    by_cases he : m = j
    · subst he
      exact ⟨_, _, List.getElem?_set_self hp, List.getElem?_set_self hlt, h3.turn o e hn hn'⟩
    · obtain ⟨x, y, g1, g2, g3⟩ := H.att j hj (by simpa using hjl)
      exact ⟨x, y, by rw [List.getElem?_set_ne (fun e => he (posK_inj hm hj e))]; exact g1, by rw [List.getElem?_set_ne he]; exact g2, g3⟩
  · show (h'.owned.set (posK K m) (turnO o e))[posK K j]? = (h.owned.set m (turnO o e))[j]?
    by_cases he : m = j
    · subst he
      rw [List.getElem?_set_self (by rw [H.olen']; exact hp), List.getElem?_set_self (by rw [H.olen]; exact hlt)]
    · rw [List.getElem?_set_ne (fun e => he (posK_inj hm hj e)), List.getElem?_set_ne he]
      exact H.own j hj (by simpa using hjl)
  · have hi : h.last i ∈ K := hi
    have hc : (h.out.set m (turnA b o e n))[h.last i]? = some c := hc
    show h'.last i = posK K (h.last i)
    rcases getElem?_set_cases hc with ⟨g1, g2, -⟩ | ⟨-, g2⟩
    · subst g2
      rw [turnA_th] at ht
      have : i = e.th := by rw [← ht, hth]
      subst this
      rw [hlast, hl]
    · exact H.last i hi c g2 ht
/-- Whose attempt is not kept; who has committed one that is not. -/
def fK (K : List Nat) (h : HS) (i : Nat) : Bool := decide (h.last i < h.out.length ∧ (h.out.getD (h.last i) Att.zero).th = (i : Int) ∧ h.last i ∉ K)
def gK (K : List Nat) (h : HS) (i : Nat) : Bool := (List.range h.out.length).any fun m => decide ((h.out.getD m Att.zero).th = (i : Int)) && (h.out.getD m Att.zero).com && decide (m ∉ K)
theorem gK_false {K : List Nat} {h : HS} {i : Nat} : gK K h i = false ↔ ∀ m, m < h.out.length → (h.out.getD m Att.zero).th = (i : Int) → (h.out.getD m Att.zero).com = true → m ∈ K := by
  unfold gK
  rw [List.any_eq_false]
  constructor
  · intro H m hm h1 h2
    have := H m (List.mem_range.2 hm)
    rw [h1, h2] at this
    simpa using this
  · intro H m hm
    have := H m (List.mem_range.1 hm)
    simp only [Bool.and_eq_true, decide_eq_true_eq, not_and]
    rintro ⟨h1, h2⟩ h3
    exact h3 (this h1 h2)
end Go.Proofs.YtnmbacleaijhmaaDoor
/-
  A slice of a well-formed trace is well-formed, and its attempts are those that are kept. Nothing of the program.
-/
namespace Go.Proofs.YtnmbacleaijhmaaDoor
set_option linter.unusedVariables false
set_option linter.unusedSimpArgs false
set_option linter.unusedVariables false
/-- What stops, or is woken, or undone, has not committed. -/
theorem Hist.stop2 {T V S : Int} {l : List Ev} {s : Sh} (h : Hist T V S l s) {i : Nat} (hi : i < l.length) (hk : (l[i]'hi).kind = 11 ∨ (l[i]'hi).kind = 13) :
    ∃ (b a : Att), (histT (l.take i)).out[(histT (l.take i)).last (l[i]'hi).th]? = some b ∧ b.th = (l[i]'hi).th ∧ (histT l).out[(histT (l.take i)).last (l[i]'hi).th]? = some a ∧ a.com = false := by
  obtain ⟨r, r', hr, hs, hr'⟩ := h.step hi
  have hlen : ((l.take i).length : Int) = i := by rw [List.length_take, Nat.min_eq_left (Nat.le_of_lt hi)]
  have hI := hr.hi
  rw [hlen] at hI
  obtain ⟨th, t', hthe, hlt, hths, -, -, hmv, -, -⟩ := at_step hr.wf hs
  have hat : (r.ths.getD th Th.zero).at_ = 7 ∨ (r.ths.getD th Th.zero).at_ = 8 := by unfold Moves at hmv; omega
  obtain ⟨a, o, g1, g2, g3, g4, g5⟩ := hI.mine hlt (by omega)
  have hcom : a.com = false := by
    rcases hat with h7 | h8
    · exact (g5.run (by omega)).2.1
    · exact (g5.stop (by omega)).2.1
  have hD : StopD th ((histT (l.take i)).last th) r (histT (l.take i)) := ⟨a, g1, g3, hcom, fun _ => by omega⟩
  have e1 : l = l.take i ++ l.drop i := (List.take_append_drop _ _).symm
  have hrun : runS r (l.drop i) = some s := by
    have h1 := h.run
    rw [e1, runS_append, hr.run] at h1
    exact h1
  obtain ⟨a2, q1, q2⟩ := stop_run (l.drop i) hr.wf hI hrun hD
  have e2 : histT l = histF (histT (l.take i)) (i : Int) (l.drop i) := by
    have h2 : histT l = histT (l.take i ++ l.drop i) := by rw [← e1]
    rw [h2]
    unfold histT
    rw [histF_append]
    rw [show (0 : Int) + ((l.take i).length : Int) = (i : Int) by omega]
  rw [hthe]
  exact ⟨a, a2, g1, g3, by rw [e2]; exact q1, q2⟩
theorem tx_after {s : Sh} {h : HS} {n : Int} (hi : HI s h n) : ∀ (k : Nat), k < h.out.length → ∀ m, m < k → (h.out.getD m Att.zero).th = (h.out.getD k Att.zero).th → (h.out.getD m Att.zero).tx ≤ (h.out.getD k Att.zero).tx ∧ ((h.out.getD m Att.zero).com = true → (h.out.getD m Att.zero).tx < (h.out.getD k Att.zero).tx) := by
  intro k
  induction k using Nat.strongRecOn with
  | _ k ih =>
    intro hk m hm hth
    rcases lastA_spec h.out (h.out.getD k Att.zero).th k with ⟨h1, h2⟩ | ⟨p, h1, h2, h3, h4⟩
    · exact absurd hth (h2 m hm)
    · have ha := get?_getD Att.zero (show p < h.out.length by omega)
      have hb := get?_getD Att.zero hk
      have hrow := hi.row p k _ _ h2 ha hb h3 (fun j c hj hjk hc => by rw [← getD_of_get? (d := Att.zero) hc]; exact h4 j hj hjk)
      rcases Nat.lt_trichotomy m p with hlt | he | hgt
      · obtain ⟨q1, q2⟩ := ih p h2 (by omega) m hlt (by rw [hth, h3])
        refine ⟨?_, fun hc => ?_⟩
        · split at hrow <;> omega
        · have := q2 hc
          split at hrow <;> omega
      · subst he
        refine ⟨?_, fun hc => ?_⟩
        · split at hrow <;> omega
        · rw [if_pos hc] at hrow; omega
      · exact absurd hth (h4 m hgt hm)
/-- What a slice keeps: committed attempts, with those of their threads ahead of them. -/
structure Closed (A : List Att) (K : List Nat) : Prop where
  lt : ∀ m ∈ K, m < A.length
  com : ∀ m ∈ K, (A.getD m Att.zero).com = true
  ahead : ∀ j ∈ K, ∀ m, m < A.length → beforeB (A.getD j Att.zero) (A.getD m Att.zero) = true → m ∈ K
theorem kept_closed {T V S : Int} {l : List Ev} {s : Sh} (h : Hist T V S l s) (vars : List Int) : Closed (histT l).out (keptL (histT l).out vars) := by
  have hk := keptL_is (histT l).out vars
  refine ⟨hk.lt, fun m hm => (kept_com h hm).2, fun j hj m hm hb => ?_⟩
  refine (hk.2 m).2 (.step ((hk.2 j).1 hj) ?_)
  exact List.mem_append_right _ (List.mem_filter.2 ⟨List.mem_range.2 hm, hb⟩)
theorem fK_new (K : List Nat) : fK K newH = fun _ => false := by
  funext i
  unfold fK
  rw [decide_eq_false_iff_not]
  rintro ⟨h, -⟩
  exact absurd h (Nat.not_lt_zero _)
theorem gK_new (K : List Nat) : gK K newH = fun _ => false := by
  funext i
  rw [gK_false]
  intro m hm
  exact absurd hm (Nat.not_lt_zero _)
theorem hist_take_snoc {l : List Ev} {K : List Nat} {k : Nat} (hk : k < l.length) (hq : inK K (ofI l k) = true) : histT (byF l K (k + 1)) = stepH (histT (byF l K k)) ((byF l K k).length : Int) l[k] := by
  rw [byF_step l K k hk, hq, if_pos rfl]
  unfold histT
  rw [histF_snoc, Int.zero_add]
theorem run_snoc {l : List Ev} {K : List Nat} {k : Nat} (hk : k < l.length) (hq : inK K (ofI l k) = true) (s0 : Sh) : runS s0 (byF l K (k + 1)) = (runS s0 (byF l K k)).bind fun q => stepS q l[k] := by
  rw [byF_step l K k hk, hq, if_pos rfl, runS_snoc]
theorem byF_drop {l : List Ev} {K : List Nat} {k : Nat} (hk : k < l.length) (hq : inK K (ofI l k) = false) : byF l K (k + 1) = byF l K k := by
  rw [byF_step l K k hk, hq]; simp
theorem byF_le (l : List Ev) (K : List Nat) (k : Nat) : (0 : Int) ≤ ((byF l K k).length : Int) := by omega
theorem inK_nat (K : List Nat) (m : Nat) : inK K (m : Int) = decide (m ∈ K) := by unfold inK; simp
theorem getD_last {A : List Att} {x : Att} : (A ++ [x]).getD A.length Att.zero = x := by
  rw [List.getD_eq_getElem?_getD, List.getElem?_append_right (Nat.le_refl _), Nat.sub_self]; rfl
theorem getD_front {A : List Att} {x : Att} {i : Nat} (h : i < A.length) : (A ++ [x]).getD i Att.zero = A.getD i Att.zero := by
  rw [List.getD_eq_getElem?_getD, List.getElem?_append_left h, ← List.getD_eq_getElem?_getD]
section
variable {K : List Nat} {H : HS} {n : Int} {e : Ev}
theorem fK_begin_ne (k1 : e.kind = 1) {i : Nat} (hi : (i : Int) ≠ e.th) : fK K (stepH H n e) i = fK K H i := by
  rw [stepH_begin H n k1]
  unfold fK
  simp only [updN, if_neg hi, List.length_append, List.length_singleton]
  by_cases hl : H.last i < H.out.length
  · rw [getD_front hl]
    congr 1
    exact propext ⟨fun ⟨_, h2, h3⟩ => ⟨hl, h2, h3⟩, fun ⟨_, h2, h3⟩ => ⟨by omega, h2, h3⟩⟩
  · refine (decide_eq_false ?_).trans (decide_eq_false (fun h => hl h.1)).symm
    rintro ⟨h1, h2, -⟩
    have he : H.last i = H.out.length := by omega
    rw [he, getD_last] at h2
    exact hi h2.symm
theorem fK_begin_eq (k1 : e.kind = 1) {i : Nat} (hi : (i : Int) = e.th) : fK K (stepH H n e) i = decide (H.out.length ∉ K) := by
  rw [stepH_begin H n k1]
  unfold fK
  simp only [updN, if_pos hi, List.length_append, List.length_singleton, getD_last]
  congr 1
  exact propext ⟨fun h => h.2.2, fun h => ⟨by omega, hi.symm, h⟩⟩
theorem bool_of_false {a b : Bool} (h : a = false ↔ b = false) : a = b := by cases a <;> cases b <;> simp_all
theorem gK_begin (k1 : e.kind = 1) (i : Nat) : gK K (stepH H n e) i = gK K H i := by
  apply bool_of_false
  rw [gK_false, gK_false, stepH_begin H n k1]
  simp only [List.length_append, List.length_singleton]
  constructor
  · intro h m hm h1 h2
    refine h m (by omega) ?_ ?_
    · rw [getD_front hm]; exact h1
    · rw [getD_front hm]; exact h2
  · intro h m hm h1 h2
    by_cases he : m = H.out.length
    · subst he
      rw [getD_last] at h2
      cases h2
    · have hm' : m < H.out.length := by omega
      rw [getD_front hm'] at h1 h2
      exact h m hm' h1 h2
variable {m : Nat} {a : Att} {o : Int} {W : List Int}
theorem set_th (ha : H.out[m]? = some a) (j : Nat) : ((H.out.set m (turnA a o e n)).getD j Att.zero).th = (H.out.getD j Att.zero).th := by
  by_cases he : m = j
  · subst he
    rw [getD_set_eq _ _ _ _ (List.getElem?_eq_some_iff.1 ha).1, turnA_th, getD_of_get? ha]
  · rw [getD_set_ne _ _ _ _ _ he]
theorem fK_mid (ha : H.out[m]? = some a) (i : Nat) : fK K ⟨H.last, H.out.set m (turnA a o e n), W⟩ i = fK K H i := by
  unfold fK
  simp only [List.length_set, set_th ha]
theorem gK_mid (ha : H.out[m]? = some a) {i : Nat} (h : m ∈ K ∨ a.th ≠ (i : Int)) : gK K ⟨H.last, H.out.set m (turnA a o e n), W⟩ i = gK K H i := by
  apply bool_of_false
  rw [gK_false, gK_false]
  simp only [List.length_set, set_th ha]
  constructor
  · intro g j hj h1 h2
    by_cases he : m = j
    · subst he
      rcases h with h | h
      · exact h
      · rw [getD_of_get? ha] at h1; exact absurd h1 h
    · exact g j hj h1 (by rw [getD_set_ne _ _ _ _ _ he]; exact h2)
  · intro g j hj h1 h2
    by_cases he : m = j
    · subst he
      rcases h with h | h
      · exact h
      · rw [getD_of_get? ha] at h1; exact absurd h1 h
    · rw [getD_set_ne _ _ _ _ _ he] at h2
      exact g j hj h1 h2
theorem gK_mid_false (ha : H.out[m]? = some a) {i : Nat} (hm : m ∉ K) (hi : a.th = (i : Int)) (hg : gK K ⟨H.last, H.out.set m (turnA a o e n), W⟩ i = false) : gK K H i = false ∧ e.kind ≠ 7 ∧ a.com = false := by
  have hml := (List.getElem?_eq_some_iff.1 ha).1
  rw [gK_false] at hg
  simp only [List.length_set, set_th ha] at hg
  have hc : (turnA a o e n).com = false := by
    cases hc : (turnA a o e n).com with
    | false => rfl
    | true => exact absurd (hg m hml (by rw [getD_of_get? ha]; exact hi) (by rw [getD_set_eq _ _ _ _ hml]; exact hc)) hm
  rw [turnA_com, Bool.or_eq_false_iff, decide_eq_false_iff_not] at hc
  refine ⟨gK_false.2 fun j hj h1 h2 => ?_, hc.2, hc.1⟩
  by_cases he : m = j
  · subst he
    rw [getD_of_get? ha, hc.1] at h2; cases h2
  · exact hg j hj h1 (by rw [getD_set_ne _ _ _ _ _ he]; exact h2)
end
/-- The whole run, and that over the slice, side by side. -/
theorem slice_run {T V S : Int} {l : List Ev} {s : Sh} (h : Hist T V S l s) {K : List Nat} (hC : Closed (histT l).out K) : ∀ k, k ≤ l.length →
    ∃ r q, Hist T V S (l.take k) r ∧ runS (newS T V S) (byF l K k) = some q ∧ SimG r q (fK K (histT (l.take k))) (gK K (histT (l.take k))) ∧ Mon r ∧ HRel K (histT (l.take k)) (histT (byF l K k))
  | 0, _ => ⟨newS T V S, newS T V S, ⟨h.size, rfl⟩, rfl, by
      rw [List.take_zero]
      show SimG _ _ (fK K newH) (gK K newH)
      rw [fK_new, gK_new]; exact simG_new T V S, newS_mon T V S, ⟨rfl, rfl, rfl, fun m _ h => absurd h (Nat.not_lt_zero _), fun m _ h => absurd h (Nat.not_lt_zero _), fun i _ b hb => by cases hb⟩⟩
  | k + 1, hk1 => by
    have hk : k < l.length := by omega
    obtain ⟨r, q, hr, hq, hS, hM, hR⟩ := slice_run h hC k (by omega)
    obtain ⟨r0, r', hr0, hs, hr'⟩ := h.step hk
    obtain rfl : r0 = r := Option.some.inj (hr0.run.symm.trans hr.run)
    have hM' := mon_step hr.wf hM hs
    have hlen : ((l.take k).length : Int) = k := by rw [List.length_take, Nat.min_eq_left (Nat.le_of_lt hk)]
    have hI := hr.hi
    rw [hlen] at hI
    have hI1 := hi_step hr.wf hI hs
    have hof := ofI_eq hk
    have hst := histT_step hk
    have hG := h.grown hk1
    have hstop := fun hkk => h.stopped hk hkk
    have hstop2 := fun hkk => h.stop2 hk hkk
    have hsn := fun hqq => hist_take_snoc (K := K) hk hqq
    have hrn := fun hqq => run_snoc (K := K) hk hqq (newS T V S)
    have hbd := fun hqq => byF_drop (K := K) hk hqq
    refine ⟨r', ?_⟩
    suffices H : ∃ q, runS (newS T V S) (byF l K (k + 1)) = some q ∧ SimG r' q (fK K (histT (l.take (k + 1)))) (gK K (histT (l.take (k + 1)))) ∧ HRel K (histT (l.take (k + 1))) (histT (byF l K (k + 1))) by
      obtain ⟨q', h1, h2, h3⟩ := H
      exact ⟨q', hr', h1, h2, hM', h3⟩
    have hA : ∀ m b, (histT (l.take (k + 1))).out[m]? = some b → m < (histT l).out.length ∧ b.th = ((histT l).out.getD m Att.zero).th ∧ b.tx = ((histT l).out.getD m Att.zero).tx ∧ (b.com = true → ((histT l).out.getD m Att.zero).com = true) := fun m b hb => by
      have hm := (List.getElem?_eq_some_iff.1 hb).1
      have hsub := hG.old m hm
      rw [getD_of_get? hb] at hsub
      exact ⟨Nat.lt_of_lt_of_le hm hG.len, hsub.th, hsub.tx, fun hc => (hsub.com hc).1⟩
    rw [hst] at hA ⊢
    clear hG hr0
    generalize histT (l.take k) = H at *
    generalize he : l[k] = e at *
    obtain ⟨th, t', hthe, hlt, hths, -, -, hmv, -, -⟩ := at_step hr.wf hs
    have htn : e.th.toNat = th := by omega
    have hke : (th : Int) = e.th := hthe.symm
    by_cases k1 : e.kind = 1
    · -- a Begin
      have hofj : ofI l k = (H.out.length : Nat) := by rw [hof]; unfold ofH; rw [if_pos k1]
      have hin : inK K (ofI l k) = decide (H.out.length ∈ K) := by rw [hofj, inK_nat]
      by_cases hj : H.out.length ∈ K
      · have hin' : inK K (ofI l k) = true := by rw [hin, decide_eq_true hj]
        -- who is kept begins behind no committed one that is not
        have hgth : gK K H th = false := by
          rw [gK_false]
          intro m hm h1 h2
          have hbm : (stepH H k e).out[m]? = some (H.out.getD m Att.zero) := by
            rw [stepH_begin H k k1]
            show (H.out ++ [newA e k])[m]? = _
            rw [List.getElem?_append_left hm]; exact get?_getD Att.zero hm
          have hbj : (stepH H k e).out[H.out.length]? = some (newA e k) := by
            rw [stepH_begin H k k1]
            show (H.out ++ [newA e k])[H.out.length]? = _
            simp
          obtain ⟨a1, a2, a3, a4⟩ := hA _ _ hbm
          obtain ⟨b1, b2, b3, b4⟩ := hA _ _ hbj
          have htx := (tx_after hI1 H.out.length (List.getElem?_eq_some_iff.1 hbj).1 m hm (by rw [getD_of_get? hbm, getD_of_get? hbj, h1, hke]; rfl)).2
          rw [getD_of_get? hbm, getD_of_get? hbj] at htx
          refine hC.ahead _ hj m a1 ?_
          unfold beforeB
          simp only [Bool.and_eq_true, decide_eq_true_eq]
          refine ⟨⟨a4 h2, ?_⟩, ?_⟩
          · rw [← a2, ← b2, h1, hke]; rfl
          · rw [← a3, ← b3]; exact htx h2
        obtain ⟨q', h1, h2⟩ := simG_keep (f' := fK K (stepH H k e)) (g' := gK K (stepH H k e)) hr.wf hM hS hs (by rw [htn, fK_begin_eq k1 hke]; simp [hj]) (fun i hi => fK_begin_ne k1 hi) (fun i hi => gK_begin k1 i) (fun _ => by rw [htn]; exact hgth) (fun h => absurd k1 h) (by omega)
        refine ⟨q', ?_, h2, ?_⟩
        · rw [hrn hin', hq]; exact h1
        · rw [hsn hin']; exact hR.begin_keep k1 hj
      · have hin' : inK K (ofI l k) = false := by rw [hin, decide_eq_false hj]
        rw [hbd hin']
        refine ⟨q, hq, simG_drop hr.wf hM hS hs (by rw [htn, fK_begin_eq k1 hke]; simp [hj]) (fun i hi => fK_begin_ne k1 hi) (fun i hi => gK_begin k1 i) (fun h => absurd k1 h) (fun hg => ?_), hR.begin_drop k1 hj⟩
        rw [gK_begin k1] at hg
        exact ⟨hg, by omega, by omega⟩
    · by_cases k13 : e.kind = 13
      · -- a Wake
        have hofj : ofI l k = -1 := by rw [hof]; unfold ofH; rw [if_neg k1, if_pos k13]
        have hin' : inK K (ofI l k) = false := by rw [hofj]; rfl
        have hsame : stepH H k e = H := by unfold stepH; rw [if_neg k1, if_pos k13]
        obtain ⟨b, a, g1, g2, g3, g4⟩ := hstop2 (.inr k13)
        have hft : fK K H th = true := by
          unfold fK
          rw [decide_eq_true_iff, hke]
          refine ⟨(List.getElem?_eq_some_iff.1 g1).1, by rw [getD_of_get? g1]; exact g2, fun hm => ?_⟩
          have := hC.com _ hm
          rw [getD_of_get? g3, g4] at this; cases this
        rw [hbd hin', hsame]
        exact ⟨q, hq, simG_drop hr.wf hM hS hs (by rw [htn]; exact hft) (fun _ _ => rfl) (fun _ _ => rfl) (fun _ => by rw [htn]; exact hft) (fun hg => ⟨hg, by omega, by omega⟩), hR⟩
      · -- of an attempt
        have hat0 : (r0.ths.getD th Th.zero).at_ ≠ 0 := by unfold Moves at hmv; omega
        obtain ⟨a, o, g1, g2, g3, g4, g5⟩ := hI.mine hlt hat0
        have hofj : ofI l k = (H.last th : Nat) := by rw [hof]; unfold ofH; rw [if_neg k1, if_neg k13, hthe]
        have hin : inK K (ofI l k) = decide (H.last th ∈ K) := by rw [hofj, inK_nat]
        have hsm := stepH_mid (n := (k : Int)) hthe k1 k13 g1 g2
        have hfm : ∀ i, fK K (stepH H k e) i = fK K H i := fun i => by rw [hsm]; exact fK_mid g1 i
        by_cases hm : H.last th ∈ K
        · have hin' : inK K (ofI l k) = true := by rw [hin, decide_eq_true hm]
          have hcom := hC.com _ hm
          have hft : fK K H th = false := by
            unfold fK
            rw [decide_eq_false_iff_not]
            exact fun h => h.2.2 hm
          have hk10 : e.kind ≠ 10 ∧ e.kind ≠ 12 := by
            refine ⟨fun hk => ?_, fun hk => ?_⟩
            · obtain ⟨m', a', q1, q2, q3⟩ := hstop (.inl hk)
              have : m' = H.last th := by omega
              subst this
              rw [getD_of_get? q2, q3] at hcom; cases hcom
            · obtain ⟨m', a', q1, q2, q3⟩ := hstop (.inr hk)
              have : m' = H.last th := by omega
              subst this
              rw [getD_of_get? q2, q3] at hcom; cases hcom
          have hk11 : e.kind ≠ 11 := fun hk => by
            obtain ⟨b', a', q1, q2, q3, q4⟩ := hstop2 (.inl hk)
            rw [hthe] at q3
            rw [getD_of_get? q3, q4] at hcom; cases hcom
          have hgm : ∀ i, gK K (stepH H k e) i = gK K H i := fun i => by rw [hsm]; exact gK_mid g1 (.inl hm)
          obtain ⟨q', h1, h2⟩ := simG_keep (f' := fK K (stepH H k e)) (g' := gK K (stepH H k e)) hr.wf hM hS hs (by rw [htn, hfm]; exact hft) (fun i hi => hfm i) (fun i hi => hgm i) (fun h => absurd h k1) (fun _ => by rw [htn]; exact hft) ⟨hk10.1, hk11, hk10.2, k13⟩
          refine ⟨q', ?_, h2, ?_⟩
          · rw [hrn hin', hq]; exact h1
          · rw [hsn hin', hsm]
            exact hR.mid_keep k1 k13 (by rw [hthe]) g1 g2 (by rw [g3, hthe]) hm (by omega) (by omega)
        · have hin' : inK K (ofI l k) = false := by rw [hin, decide_eq_false hm]
          have hft : fK K H th = true := by
            unfold fK
            rw [decide_eq_true_iff]
            exact ⟨(List.getElem?_eq_some_iff.1 g1).1, by rw [getD_of_get? g1]; exact g3, hm⟩
          rw [hbd hin']
          refine ⟨q, hq, simG_drop hr.wf hM hS hs (by rw [htn, hfm]; exact hft) (fun i hi => hfm i) (fun i hi => ?_) (fun _ => by rw [htn]; exact hft) (fun hg => ?_), ?_⟩
          · rw [hsm]; exact gK_mid g1 (.inr (by rw [g3]; omega))
          · rw [htn, hsm] at hg
            obtain ⟨x1, x2, x3⟩ := gK_mid_false g1 hm g3 hg
            refine ⟨by rw [htn]; exact x1, x2, fun h9 => ?_⟩
            have hp : (r0.ths.getD th Th.zero).at_ = 5 ∨ (r0.ths.getD th Th.zero).at_ = 6 := by unfold Moves at hmv; omega
            have := (g5.put hp).2.1
            rw [x3] at this; cases this
          · rw [hsm]; exact hR.mid_drop (by rw [hthe]) g1 hm
end Go.Proofs.YtnmbacleaijhmaaDoor
/-
  What a slice's law asks of the slice: it is well-formed; its attempts; its row of events. Nothing of the program.
-/
namespace Go.Proofs.YtnmbacleaijhmaaDoor
set_option linter.unusedVariables false
set_option linter.unusedSimpArgs false
set_option linter.unusedVariables false
theorem posK_sorted : ∀ {K : List Nat}, SortedN K → ∀ j (hj : j < K.length), posK K K[j] = j := by
  intro K hK j hj
  unfold posK
  have h1 : ∀ m, (List.range m).countP (fun i => decide (i ∈ K)) = K.countP (fun x => decide (x < m)) := by
    intro m
    induction m with
    | zero => simp
    | succ m ih =>
      rw [List.range_succ, List.countP_append, ih]
      have hs : ∀ {L : List Nat}, SortedN L → L.countP (fun x => decide (x < m + 1)) = L.countP (fun x => decide (x < m)) + if m ∈ L then 1 else 0 := by
        intro L
        induction L with
        | nil => intro _; simp
        | cons x L ihL =>
          intro hL
          have hL' := List.pairwise_cons.1 hL
          rw [List.countP_cons, List.countP_cons, ihL hL'.2]
          by_cases hx : x = m
          · subst hx
            have hn : x ∉ L := fun h => by have := hL'.1 x h; omega
            simp [hn]
          · have hm : (m ∈ x :: L) ↔ m ∈ L := by simp [Ne.symm hx]
            by_cases hlt : x < m
            · have hlt' : x < m + 1 := by omega
              simp only [decide_eq_true hlt, decide_eq_true hlt', hm]
              simp
              omega
            · have hlt' : ¬ x < m + 1 := by omega
              simp only [decide_eq_false hlt, decide_eq_false hlt', hm]
              simp
      rw [hs hK]
      by_cases h : m ∈ K <;> simp [h]
  rw [h1]
  have h2 : placeN K K[j] = j := by
    obtain ⟨h3, h4⟩ := placeN_spec (i := K[j]) hK
    rcases Nat.lt_trichotomy (placeN K K[j]) j with h | h | h
    · have h5 := h4 (placeN K K[j]) (by omega) (Nat.le_refl _)
      have h6 := List.pairwise_iff_getElem.1 hK (placeN K K[j]) j (by omega) hj h
      omega
    · exact h
    · have := h3 j hj h
      omega
  exact h2
theorem posK_all {K : List Nat} (hK : SortedN K) {n : Nat} (h : ∀ m ∈ K, m < n) : posK K n = K.length := by
  rcases Nat.eq_zero_or_pos K.length with h0 | hp
  · have hn : K = [] := List.eq_nil_of_length_eq_zero h0
    subst hn
    unfold posK
    simp
  · obtain ⟨j, hj⟩ : ∃ j, j + 1 = K.length := ⟨K.length - 1, by omega⟩
    have e1 := posK_sorted hK j (by omega)
    have hm := List.getElem_mem (l := K) (n := j) (by omega)
    have e2 := posK_lt hm (h _ hm)
    -- nothing lies behind the last one
    have e3 : ∀ n, K[j] < n → posK K n = K.length := by
      intro n hn
      induction n with
      | zero => omega
      | succ n ih =>
        rw [posK_succ]
        by_cases he : K[j] = n
        · rw [if_pos (he ▸ hm), ← he, e1]; omega
        · rw [ih (by omega), if_neg ?_]
          · rfl
          intro hin
          obtain ⟨i, hi, hie⟩ := List.mem_iff_getElem.1 hin
          have : K[i] ≤ K[j] := by
            rcases Nat.lt_or_ge i j with hlt | hge
            · exact Nat.le_of_lt (List.pairwise_iff_getElem.1 hK i j hi (by omega) hlt)
            · have : i = j := by omega
              subst this; exact Nat.le_refl _
          omega
    exact e3 n (h _ hm)
/-- The slice is well-formed; its attempts are those that are kept. -/
theorem slice_all {T V S : Int} {l : List Ev} {s : Sh} (h : Hist T V S l s) {K : List Nat} (hK : SortedN K) (hC : Closed (histT l).out K) :
    ∃ q, Hist T V S (byF l K l.length) q ∧ (histT (byF l K l.length)).out.length = K.length ∧
      ∀ j (hj : j < K.length), AttR ((histT (byF l K l.length)).out.getD j Att.zero) ((histT l).out.getD K[j] Att.zero) := by
  obtain ⟨r, q, h1, h2, h3, h4, h5⟩ := slice_run h hC l.length (Nat.le_refl _)
  rw [List.take_length] at h1 h3 h5
  refine ⟨q, ⟨h.size, h2⟩, ?_, fun j hj => ?_⟩
  · rw [h5.len, posK_all hK hC.lt]
  · have hm := List.getElem_mem hj
    obtain ⟨a, b, g1, g2, g3⟩ := h5.att K[j] hm (hC.lt _ hm)
    rw [posK_sorted hK j hj] at g1
    rw [getD_of_get? g1, getD_of_get? g2]
    exact g3
/-- Is an event of l the same as one of m? -/
def eqAt (l m : List Ev) (i j : Nat) : Bool := match l[i]?, m[j]? with
  | some a, some b => decide (a.kind = b.kind ∧ a.th = b.th ∧ a.tx = b.tx ∧ a.at_ = b.at_ ∧ a.v = b.v ∧ a.x = b.x ∧ a.why = b.why)
  | _, _ => false
theorem eqAt_lt {l m : List Ev} {i j : Nat} (h : eqAt l m i j = true) : j < m.length := by
  unfold eqAt at h
  split at h
  · rename_i h2; exact (List.getElem?_eq_some_iff.1 h2).1
  · cases h
theorem eqAt_same {l m : List Ev} {i j : Nat} {e : Ev} (h : l[i]? = some e) (h' : m[j]? = some e) : eqAt l m i j = true := by
  unfold eqAt
  rw [h, h']
  simp
/-- How many events of m the law has found behind i events of l. -/
def matK (l m : List Ev) : Nat → Nat
  | 0 => 0
  | i + 1 => if eqAt l m i (matK l m i) = true then matK l m i + 1 else matK l m i
theorem matK_le (l m : List Ev) : ∀ i, matK l m i ≤ m.length
  | 0 => Nat.zero_le _
  | i + 1 => by
    have := matK_le l m i
    unfold matK
    split
    · rename_i h; have := eqAt_lt h; omega
    · omega
theorem byF_prefix (l : List Ev) (K : List Nat) : ∀ (d k : Nat), k + d = l.length → byF l K k <+: byF l K l.length
  | 0, k, h => by rw [show k = l.length by omega]; exact List.prefix_refl _
  | d + 1, k, h => by
    refine List.IsPrefix.trans ?_ (byF_prefix l K d (k + 1) (by omega))
    rw [byF_step l K k (by omega)]
    exact List.prefix_append _ _
theorem matK_slice (l : List Ev) (K : List Nat) : ∀ i, i ≤ l.length → (byF l K i).length ≤ matK l (byF l K l.length) i
  | 0, _ => Nat.zero_le _
  | i + 1, h => by
    have ih := matK_slice l K i (by omega)
    have hi : i < l.length := by omega
    have hp := byF_prefix l K (l.length - (i + 1)) (i + 1) (by omega)
    have hle := hp.length_le
    have hst := byF_step l K i hi
    have hmono : matK l (byF l K l.length) i ≤ matK l (byF l K l.length) (i + 1) := by
      conv => rhs; unfold matK
      split <;> omega
    by_cases hq : inK K (ofI l i) = true
    · rw [if_pos hq] at hst
      have hlen : (byF l K (i + 1)).length = (byF l K i).length + 1 := by rw [hst]; simp
      by_cases heq : matK l (byF l K l.length) i = (byF l K i).length
      · have hget : (byF l K l.length)[(byF l K i).length]? = some l[i] := by
          refine prefix_get hp ?_
          rw [hst]; simp
        have : matK l (byF l K l.length) (i + 1) = matK l (byF l K l.length) i + 1 := by
          conv => lhs; unfold matK
          rw [if_pos]
          rw [heq]
          exact eqAt_same (List.getElem?_eq_getElem hi) hget
        omega
      · omega
    · rw [if_neg hq, List.append_nil] at hst
      rw [hst]; omega
/-- The law finds all events of the slice. -/
theorem matK_all (l : List Ev) (K : List Nat) : matK l (byF l K l.length) l.length = (byF l K l.length).length :=
  Nat.le_antisymm (matK_le _ _ _) (matK_slice l K l.length (Nat.le_refl _))
end Go.Proofs.YtnmbacleaijhmaaDoor
/-
  A slice of a slice: what is kept of what is kept. Nothing of the program.
-/
namespace Go.Proofs.YtnmbacleaijhmaaDoor
set_option linter.unusedVariables false
set_option linter.unusedSimpArgs false
set_option linter.unusedVariables false
/-- M are the attempts of A that are in K. -/
structure Img (A M : List Att) (K : List Nat) : Prop where
  sorted : SortedN K
  lt : ∀ m ∈ K, m < A.length
  len : M.length = K.length
  att : ∀ j (hj : j < K.length), AttR (M.getD j Att.zero) (A.getD K[j] Att.zero)
variable {A M : List Att} {K : List Nat}
theorem Img.at (H : Img A M K) {m : Nat} (hm : m ∈ K) : posK K m < M.length ∧ AttR (M.getD (posK K m) Att.zero) (A.getD m Att.zero) := by
  obtain ⟨j, hj, rfl⟩ := List.mem_iff_getElem.1 hm
  rw [posK_sorted H.sorted j hj, H.len]
  exact ⟨hj, H.att j hj⟩
theorem Img.back (H : Img A M K) {j : Nat} (hj : j < M.length) : ∃ m, m ∈ K ∧ posK K m = j := by
  have hj' : j < K.length := by rw [← H.len]; exact hj
  exact ⟨K[j], List.getElem_mem hj', posK_sorted H.sorted j hj'⟩
theorem candB_img {a b : Att} (h : AttR a b) (v most : Int) : candB a v most = candB b v most := by
  unfold candB wroteB
  rw [h.wv, h.wrs]
theorem writer_img (H : Img A M K) (v most : Int) (hw : 0 ≤ writerL A v most → (writerL A v most).toNat ∈ K) : writerL M v most = if 0 ≤ writerL A v most then ((posK K (writerL A v most).toNat : Nat) : Int) else -1 := by
  refine isWriter_one (writerL_is M v most) ?_
  have h1 := writerL_is A v most
  generalize writerL A v most = w at hw h1 ⊢
  rcases h1 with ⟨rfl, h⟩ | ⟨h1, h2, h3, h4⟩
  · rw [if_neg (by decide)]
    refine .inl ⟨rfl, fun i hi => ?_⟩
    obtain ⟨m, hm, rfl⟩ := H.back hi
    rw [candB_img (H.at hm).2]
    exact h m (H.lt m hm)
  · rw [if_pos h1]
    have hm := hw h1
    obtain ⟨q1, q2⟩ := H.at hm
    refine .inr ⟨by omega, by omega, ?_, fun i hi hc => ?_⟩
    · rw [Int.toNat_natCast, candB_img q2]; exact h3
    · obtain ⟨x, hx, rfl⟩ := H.back hi
      have hax := (H.at hx).2
      rw [candB_img hax] at hc
      rw [Int.toNat_natCast, hax.wv, q2.wv]
      rcases h4 x (H.lt x hx) hc with h5 | ⟨h5, h6⟩
      · exact .inl h5
      · refine .inr ⟨h5, ?_⟩
        have := posK_mono K (show w.toNat ≤ x by omega)
        omega
theorem writer_most (L : List Att) (v b b' : Int) (h : ∀ i, i < L.length → (L.getD i Att.zero).wv ≤ b ∧ (L.getD i Att.zero).wv ≤ b') : writerL L v b = writerL L v b' := by
  refine isWriter_one ?_ (writerL_is L v b')
  have hc : ∀ i, i < L.length → candB (L.getD i Att.zero) v b' = candB (L.getD i Att.zero) v b := by
    intro i hi
    obtain ⟨h1, h2⟩ := h i hi
    unfold candB
    rw [decide_eq_true h1, decide_eq_true h2]
  rcases writerL_is L v b with ⟨e, g⟩ | ⟨g1, g2, g3, g4⟩
  · exact .inl ⟨e, fun i hi => by rw [hc i hi]; exact g i hi⟩
  · exact .inr ⟨g1, g2, by rw [hc _ (by omega)]; exact g3, fun i hi h' => g4 i hi (by rw [← hc i hi]; exact h')⟩
theorem top_img (H : Img A M K) (v : Int) : writerL M v (topL M) = writerL M v (topL A) := by
  refine writer_most M v _ _ fun i hi => ⟨topK_ge M M.length i hi, ?_⟩
  obtain ⟨m, hm, rfl⟩ := H.back hi
  rw [(H.at hm).2.wv]
  exact topK_ge A A.length m (H.lt m hm)
theorem mem_rootsV {L : List Att} {F : List Int} {i : Nat} : i ∈ rootsV L F ↔ ∃ v ∈ F, writerL L v (topL L) = (i : Int) := by
  unfold rootsV
  rw [List.mem_filterMap]
  constructor
  · rintro ⟨v, hv, h⟩
    split at h
    · cases h; exact ⟨v, hv, by omega⟩
    · cases h
  · rintro ⟨v, hv, h⟩
    exact ⟨v, hv, by rw [if_pos (by omega), h, Int.toNat_natCast]⟩
theorem mem_askedR {L : List Att} {a : Att} {i : Nat} : i ∈ askedR L a ↔ ∃ p ∈ a.reads, writerL L p.1 a.rv = (i : Int) := by
  unfold askedR
  rw [List.mem_filterMap]
  constructor
  · rintro ⟨v, hv, h⟩
    split at h
    · cases h; exact ⟨v, hv, by omega⟩
    · cases h
  · rintro ⟨v, hv, h⟩
    exact ⟨v, hv, by rw [if_pos (by omega), h, Int.toNat_natCast]⟩
theorem img_writer (H : Img A M K) {v most : Int} (hw : 0 ≤ writerL A v most → (writerL A v most).toNat ∈ K) {x : Nat} (hx : x ∈ K) : writerL M v most = (posK K x : Nat) ↔ writerL A v most = (x : Int) := by
  rw [writer_img H v most hw]
  by_cases h : 0 ≤ writerL A v most
  · rw [if_pos h]
    constructor
    · intro e
      have := posK_inj (hw h) hx (by omega)
      omega
    · intro e
      rw [e, Int.toNat_natCast]
  · rw [if_neg h]
    constructor
    · intro e; omega
    · intro e; omega
/-- What the slice's own keeping asks of K. -/
structure KeepsF (A : List Att) (K : List Nat) (F : List Int) : Prop where
  top : ∀ v ∈ F, 0 ≤ writerL A v (topL A) → (writerL A v (topL A)).toNat ∈ K
  opn : ∀ i, i < A.length → openB (A.getD i Att.zero) = true → i ∈ K
  ask : ∀ x ∈ K, ∀ y ∈ asked A (A.getD x Att.zero), y ∈ K
theorem openB_img {a b : Att} (h : AttR a b) : openB a = openB b := by
  unfold openB
  rw [h.wv]
  congr 1
  exact decide_eq_decide.2 h.to_
theorem beforeB_img {a b c d : Att} (h : AttR a b) (h' : AttR c d) : beforeB a c = beforeB b d := by
  unfold beforeB
  rw [h'.com, h.th, h'.th, h.tx, h'.tx]
theorem roots_img (H : Img A M K) {F : List Int} (hF : KeepsF A K F) {x : Nat} (hx : x ∈ K) : posK K x ∈ roots M F ↔ x ∈ roots A F := by
  unfold roots
  rw [List.mem_append, List.mem_append, mem_rootsV, mem_rootsV]
  obtain ⟨q1, q2⟩ := H.at hx
  have e1 : (∃ v ∈ F, writerL M v (topL M) = ((posK K x : Nat) : Int)) ↔ (∃ v ∈ F, writerL A v (topL A) = (x : Int)) := by
    constructor
    · rintro ⟨v, hv, h⟩
      exact ⟨v, hv, (img_writer H (hF.top v hv) hx).1 (by rw [← top_img H]; exact h)⟩
    · rintro ⟨v, hv, h⟩
      exact ⟨v, hv, by rw [top_img H]; exact (img_writer H (hF.top v hv) hx).2 h⟩
  have e2 : posK K x ∈ rootsO M ↔ x ∈ rootsO A := by
    unfold rootsO
    rw [List.mem_filter, List.mem_filter, List.mem_range, List.mem_range, openB_img q2]
    exact ⟨fun h => ⟨H.lt x hx, h.2⟩, fun h => ⟨q1, h.2⟩⟩
  rw [e1, e2]
theorem asked_img (H : Img A M K) {F : List Int} (hF : KeepsF A K F) {x y : Nat} (hx : x ∈ K) (hy : y ∈ K) : posK K y ∈ asked M (M.getD (posK K x) Att.zero) ↔ y ∈ asked A (A.getD x Att.zero) := by
  obtain ⟨q1, q2⟩ := H.at hx
  obtain ⟨p1, p2⟩ := H.at hy
  have hask := hF.ask x hx
  unfold asked at hask ⊢
  rw [List.mem_append, List.mem_append, mem_askedR, mem_askedR]
  have e1 : (∃ p ∈ (M.getD (posK K x) Att.zero).reads, writerL M p.1 (M.getD (posK K x) Att.zero).rv = ((posK K y : Nat) : Int)) ↔ (∃ p ∈ (A.getD x Att.zero).reads, writerL A p.1 (A.getD x Att.zero).rv = (y : Int)) := by
    rw [q2.rds, q2.rv]
    have hw : ∀ p ∈ (A.getD x Att.zero).reads, 0 ≤ writerL A p.1 (A.getD x Att.zero).rv → (writerL A p.1 (A.getD x Att.zero).rv).toNat ∈ K := fun p hp h0 => hask _ (List.mem_append_left _ (mem_askedR.2 ⟨p, hp, by omega⟩))
    constructor
    · rintro ⟨p, hp, h⟩
      exact ⟨p, hp, (img_writer H (hw p hp) hy).1 h⟩
    · rintro ⟨p, hp, h⟩
      exact ⟨p, hp, (img_writer H (hw p hp) hy).2 h⟩
  have e2 : posK K y ∈ askedT M (M.getD (posK K x) Att.zero) ↔ y ∈ askedT A (A.getD x Att.zero) := by
    unfold askedT
    rw [List.mem_filter, List.mem_filter, List.mem_range, List.mem_range, beforeB_img q2 p2]
    exact ⟨fun h => ⟨H.lt y hy, h.2⟩, fun h => ⟨p1, h.2⟩⟩
  rw [e1, e2]
theorem roots_in {F : List Int} (hF : KeepsF A K F) {x : Nat} (hx : x ∈ roots A F) : x ∈ K := by
  rcases List.mem_append.1 hx with h | h
  · obtain ⟨v, hv, e⟩ := mem_rootsV.1 h
    have := hF.top v hv (by omega)
    rwa [e, Int.toNat_natCast] at this
  · obtain ⟨h1, h2⟩ := List.mem_filter.1 h
    exact hF.opn x (List.mem_range.1 h1) h2
theorem reach_out (H : Img A M K) {F : List Int} (hF : KeepsF A K F) {x : Nat} (h : Reach A (· ∈ roots A F) x) : x ∈ K ∧ Reach M (· ∈ roots M F) (posK K x) := by
  induction h with
  | root hr => have hx := roots_in hF hr; exact ⟨hx, .root ((roots_img H hF hx).2 hr)⟩
  | step _ hj ih =>
    obtain ⟨h1, h2⟩ := ih
    have hy := hF.ask _ h1 _ hj
    exact ⟨hy, .step h2 ((asked_img H hF h1 hy).2 hj)⟩
theorem reach_back (H : Img A M K) {F : List Int} (hF : KeepsF A K F) {j : Nat} (h : Reach M (· ∈ roots M F) j) : ∃ x, x ∈ K ∧ posK K x = j ∧ Reach A (· ∈ roots A F) x := by
  induction h with
  | root hr =>
    obtain ⟨x, hx, rfl⟩ := H.back (roots_lt hr)
    exact ⟨x, hx, rfl, .root ((roots_img H hF hx).1 hr)⟩
  | step _ hj ih =>
    obtain ⟨x, hx, rfl, hxr⟩ := ih
    obtain ⟨y, hy, rfl⟩ := H.back (asked_lt hj)
    exact ⟨y, hy, rfl, .step hxr ((asked_img H hF hx hy).1 hj)⟩
/-- What is kept of the slice is what is kept of the whole. -/
theorem kept_img (H : Img A M K) {F : List Int} (hF : KeepsF A K F) {x : Nat} (hx : x ∈ K) : posK K x ∈ keptL M F ↔ x ∈ keptL A F := by
  rw [(keptL_is M F).2, (keptL_is A F).2]
  constructor
  · intro h
    obtain ⟨y, hy, e, hr⟩ := reach_back H hF h
    rw [← posK_inj hy hx e]; exact hr
  · intro h
    exact (reach_out H hF h).2
theorem kept_sub (H : Img A M K) {F : List Int} (hF : KeepsF A K F) : ∀ x ∈ keptL A F, x ∈ K := fun x hx => (reach_out H hF (((keptL_is A F).2 x).1 hx)).1
theorem keepsF_of {A : List Att} {vars F : List Int} (h : ∀ v ∈ F, v ∈ vars) : KeepsF A (keptL A vars) F := by
  have hk := keptL_is A vars
  refine ⟨fun v hv h0 => (hk.2 _).2 (.root (List.mem_append_left _ (mem_rootsV.2 ⟨v, h v hv, by omega⟩))), fun i hi ho => (hk.2 _).2 (.root (List.mem_append_right _ (List.mem_filter.2 ⟨List.mem_range.2 hi, ho⟩))), fun x hx y hy => (hk.2 _).2 (.step ((hk.2 _).1 hx) hy)⟩
end Go.Proofs.YtnmbacleaijhmaaDoor
/-
  A slice of a slice: its events. Nothing of the program.
-/
namespace Go.Proofs.YtnmbacleaijhmaaDoor
set_option linter.unusedVariables false
set_option linter.unusedSimpArgs false
set_option linter.unusedVariables false
/-- Whose an event of the slice is. -/
theorem of_img {T V S : Int} {l : List Ev} {s : Sh} (h : Hist T V S l s) {K : List Nat} (hC : Closed (histT l).out K) {k : Nat} (hk : k < l.length) {m : Nat} (hof : ofI l k = (m : Int)) (hm : m ∈ K) : ofH (histT (byF l K k)) l[k] = (posK K m : Nat) := by
  obtain ⟨r, q, hr, hq, hS, hM, hR⟩ := slice_run h hC k (by omega)
  obtain ⟨r0, r', hr0, hs, hr'⟩ := h.step hk
  obtain rfl : r0 = r := Option.some.inj (hr0.run.symm.trans hr.run)
  have hlen : ((l.take k).length : Int) = k := by rw [List.length_take, Nat.min_eq_left (Nat.le_of_lt hk)]
  have hI := hr.hi
  rw [hlen] at hI
  rw [ofI_eq hk] at hof
  obtain ⟨th, t', hthe, hlt, hths, -, -, hmv, -, -⟩ := at_step hr.wf hs
  unfold ofH at hof ⊢
  by_cases k1 : l[k].kind = 1
  · rw [if_pos k1] at hof ⊢
    have : (histT (l.take k)).out.length = m := by omega
    rw [hR.len, this]
  · rw [if_neg k1] at hof ⊢
    by_cases k13 : l[k].kind = 13
    · rw [if_pos k13] at hof; omega
    · rw [if_neg k13] at hof ⊢
      have hat0 : (r0.ths.getD th Th.zero).at_ ≠ 0 := by unfold Moves at hmv; omega
      obtain ⟨a, o, g1, g2, g3, g4, g5⟩ := hI.mine hlt hat0
      have hl : (histT (l.take k)).last l[k].th = m := by omega
      have := hR.last l[k].th (by rw [hl]; exact hm) a (by rw [hthe]; exact g1) (by rw [g3, hthe])
      rw [this, hl]
/-- The slice of a slice. -/
theorem byF_img {T V S : Int} {l : List Ev} {s : Sh} (h : Hist T V S l s) {K K' KF : List Nat} (hC : Closed (histT l).out K) (hsub : ∀ m ∈ KF, m ∈ K) (hk' : ∀ m ∈ K, posK K m ∈ K' ↔ m ∈ KF) :
    ∀ k, k ≤ l.length → byF (byF l K l.length) K' (byF l K k).length = byF l KF k
  | 0, _ => rfl
  | k + 1, hk1 => by
    have hk : k < l.length := by omega
    have ih := byF_img h hC hsub hk' k (by omega)
    have hst := byF_step l K k hk
    have hst' := byF_step l KF k hk
    have hp := byF_prefix l K (l.length - (k + 1)) (k + 1) (by omega)
    by_cases hq : inK K (ofI l k) = true
    · rw [if_pos hq] at hst
      unfold inK at hq
      simp only [Bool.and_eq_true, decide_eq_true_eq] at hq
      obtain ⟨m, hof⟩ : ∃ m : Nat, ofI l k = (m : Int) := ⟨(ofI l k).toNat, by omega⟩
      have hm : m ∈ K := by have := hq.2; rwa [hof, Int.toNat_natCast] at this
      have hlen : (byF l K (k + 1)).length = (byF l K k).length + 1 := by rw [hst]; simp
      have hlt : (byF l K k).length < (byF l K l.length).length := by have := hp.length_le; omega
      have hget : (byF l K l.length)[(byF l K k).length]? = some l[k] := by
        refine prefix_get hp ?_
        rw [hst]; simp
      have hel : (byF l K l.length)[(byF l K k).length] = l[k] := by
        have := List.getElem?_eq_getElem hlt
        rw [hget] at this
        exact (Option.some.inj this).symm
      have htake : (byF l K l.length).take (byF l K k).length = byF l K k := by
        have hpp := byF_prefix l K (l.length - k) k (by omega)
        exact (List.prefix_iff_eq_take.1 hpp).symm
      have hofS : ofI (byF l K l.length) (byF l K k).length = (posK K m : Nat) := by
        rw [ofI_eq hlt, htake, hel]
        exact of_img h hC hk hof hm
      rw [hlen, byF_step _ K' _ hlt, ih, hofS, inK_nat, hst', hof, inK_nat, hel]
      congr 1
      by_cases hmf : m ∈ KF
      · rw [if_pos (by rw [decide_eq_true ((hk' m hm).2 hmf)]), if_pos (by rw [decide_eq_true hmf])]
      · rw [if_neg (by rw [decide_eq_false (fun g => hmf ((hk' m hm).1 g))]; decide), if_neg (by rw [decide_eq_false hmf]; decide)]
    · rw [if_neg hq, List.append_nil] at hst
      have hqf : inK KF (ofI l k) = false := by
        cases hf : inK KF (ofI l k) with
        | false => rfl
        | true =>
          exfalso
          apply hq
          unfold inK at hf ⊢
          simp only [Bool.and_eq_true, decide_eq_true_eq] at hf ⊢
          exact ⟨hf.1, hsub _ hf.2⟩
      rw [hst, hst', hqf, ih]
      simp
/-- By fewer variables, of a slice, or of the whole: the same. -/
theorem slice_slice {T V S : Int} {l : List Ev} {s : Sh} (h : Hist T V S l s) {vars F : List Int} (hF : ∀ v ∈ F, v ∈ vars) :
    byF (byF l (keptL (histT l).out vars) l.length) (keptL (histT (byF l (keptL (histT l).out vars) l.length)).out F) (byF l (keptL (histT l).out vars) l.length).length = byF l (keptL (histT l).out F) l.length := by
  have hC := kept_closed h vars
  have hk := keptL_is (histT l).out vars
  obtain ⟨q, -, hlen, hatt⟩ := slice_all h hk.1 hC
  have hI : Img (histT l).out (histT (byF l (keptL (histT l).out vars) l.length)).out (keptL (histT l).out vars) := ⟨hk.1, hk.lt, hlen, hatt⟩
  have hKF := keepsF_of (A := (histT l).out) hF
  exact byF_img h hC (kept_sub hI hKF) (fun m hm => kept_img hI hKF hm) l.length (Nat.le_refl _)
theorem slice_same {T V S : Int} {l : List Ev} {s : Sh} (h : Hist T V S l s) (vars : List Int) :
    byF (byF l (keptL (histT l).out vars) l.length) (keptL (histT (byF l (keptL (histT l).out vars) l.length)).out vars) (byF l (keptL (histT l).out vars) l.length).length = byF l (keptL (histT l).out vars) l.length :=
  slice_slice h (fun _ h => h)
end Go.Proofs.YtnmbacleaijhmaaDoor
