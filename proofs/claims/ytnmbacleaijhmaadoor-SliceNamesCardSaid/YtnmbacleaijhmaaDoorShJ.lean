/-
  The checker's machine: a step keeps what holds. Nothing of the program.
-/
import Derived.Test.YtnmbacleaijhmaaDoorShI
namespace Go.Proofs.YtnmbacleaijhmaaDoor
set_option linter.unusedVariables false

theorem clk_same {s : Sh} (hw : Wf s) : s.clock ≤ s.clock ∧ s.clock ≤ 1099511627776 := ⟨by omega, hw.clk.2⟩
/-- The own thread's record, where no stripe has turned and what it owns is as it was. -/
theorem WfT.same {s s' : Sh} {i : Nat} {t t' : Th} (h : WfT s i t) (hsts : s'.sts = s.sts) (hclk : s.clock ≤ s'.clock) (ho : t'.owned = t.owned)
    (at0 : 0 ≤ t'.at_ ∧ t'.at_ ≤ 9) (st : 0 ≤ t'.stripe ∧ t'.stripe < s.n) (m1 : t'.read < 4294967296) (m3 : t'.stored < 4294967296) (m4 : t'.check < 4294967296)
    (idle : t'.at_ = 0 ∨ t'.at_ = 1 ∨ t'.at_ = 2 ∨ t'.at_ = 8 ∨ t'.at_ = 9 → t.owned = 0) (busy : t'.at_ = 3 ∨ t'.at_ = 4 ∨ t'.at_ = 5 ∨ t'.at_ = 6 ∨ t'.at_ = 7 → t.owned ≠ 0)
    (rvb : t'.rv = t.rv ∨ 0 ≤ t'.rv ∧ t'.rv ≤ s'.clock) (wvb : t'.wv = t.wv ∨ 0 ≤ t'.wv ∧ t'.wv ≤ s'.clock) (com : 0 ≤ t'.commits) (lck : t'.locked < 32 ∧ t'.var < 32 ∧ -1 ≤ t'.locked ∧ -1 ≤ t'.var) : WfT s' i t' := by
  have hn : s'.n = s.n := by unfold Sh.n; rw [hsts]
  refine ⟨at0, by rw [hn]; exact st, by rw [ho, hsts]; exact h.own, m1, by rw [ho]; exact h.m2, m3, m4, by rw [ho]; exact idle, by rw [ho]; exact busy, ?_, ?_, com, lck⟩
  · rcases rvb with e | e
    · rw [e]; have := h.rvb; omega
    · exact e
  · rcases wvb with e | e
    · rw [e]; have := h.wvb; omega
    · exact e

theorem mod_in {a n : Int} (h : 1 ≤ n) : 0 ≤ a % n ∧ a % n < n := ⟨Int.emod_nonneg _ (by omega), Int.emod_lt_of_pos _ (by omega)⟩
theorem own_getD (s : Sh) (i : Int) : s.own i = (s.sts.getD i.toNat (-1, 0)).1 := rfl
theorem ver_getD (s : Sh) (i : Int) : s.ver i = (s.sts.getD i.toNat (-1, 0)).2 := rfl

theorem stepS_wf {s s' : Sh} {e : Ev} (hw : Wf s) (h : stepS s e = some s') : Wf s' := by
  unfold stepS at h
  split at h
  case isFalse => cases h
  rename_i hm
  obtain ⟨hk, hth, htx, hv, hat, hS⟩ := mayE_of hm
  obtain ⟨th, hthe⟩ := Int.eq_ofNat_of_zero_le hth.1
  have hlt : th < s.ths.length := by omega
  have htn : e.th.toNat = th := by omega
  have hT : s.th e.th = s.ths.getD th Th.zero := by unfold Sh.th; rw [htn]
  rw [hT] at h
  have ht := hw.th th hlt
  generalize s.ths.getD th Th.zero = t at h ht
  have hatV : e.at_ < 32 := by have := places_V (e := e) hS.1 hS.2.1; have := hw.size; omega
  have hsn : s.n = s.sts.length := rfl
  have hstb := hw.stb
  unfold doesS at h
  by_cases k1 : e.kind = 1
  · rw [if_pos k1] at h
    unfold beginS at h; split at h
    case isFalse => cases h
    rename_i hc
    cases h
    refine hw.mk' (th := th) hlt (by simp [Sh.setTh, htn]; rfl) rfl ⟨by simp [Sh.setTh]; omega, by simp [Sh.setTh]; omega⟩ (Or.inl rfl) ?_
    refine ht.same rfl (by simp [Sh.setTh]; omega) (by have := ht.idle (Or.inl hc.1); simp; omega) (by simp) (by simp; exact (by have := hw.size; rw [hsn]; omega)) (by simp) (by simp) (by simp) (fun _ => ht.idle (Or.inl hc.1)) (by simp) (Or.inr (by simp [Sh.setTh]; omega)) (Or.inr (by simp [Sh.setTh]; omega)) (by simpa using ht.com) (by simp)
  rw [if_neg k1] at h
  by_cases k2 : e.kind = 2
  · rw [if_pos k2] at h
    unfold lookS at h; split at h
    case isFalse => cases h
    rename_i hc
    cases h
    have hp := places_S (e := e) (V := s.vars) (S := s.n) (by omega) (by omega) hS.1
    have hai : e.at_.toNat < s.sts.length := by omega
    refine hw.mk' (th := th) hlt (by simp [Sh.setTh, Sh.setSt, htn]; rfl) rfl (clk_same hw) (Or.inr ⟨e.at_.toNat, (-1, e.v), rfl, hai, ⟨by simp, by simp; omega⟩, by simp; omega, Or.inl (by rw [← own_getD]; exact hc.2.1)⟩) ?_
    have ho : t.owned = 0 := ht.idle (Or.inr (Or.inl hc.1))
    have hn' : ((s.setSt e.at_ (-1, e.v)).setTh e.th { t with at_ := 2, stripe := e.at_, v := e.v }).n = s.n := by simp [Sh.n, Sh.setTh, Sh.setSt]
    refine ⟨by simp, by rw [hn']; exact ⟨by simp; omega, by simp; rw [hsn]; omega⟩, fun b hb => by simp [ho] at hb, ht.m1, ht.m2, ht.m3, ht.m4, fun _ => ho, by simp, ht.rvb, ht.wvb, ht.com, ht.lck⟩
  rw [if_neg k2] at h
  by_cases k3 : e.kind = 3
  · rw [if_pos k3] at h
    unfold loadS at h; split at h
    case isFalse => cases h
    rename_i hc
    cases h
    refine hw.mk' (th := th) hlt (by simp [Sh.setTh, htn]; rfl) rfl (clk_same hw) (Or.inl rfl) ?_
    have ho : t.owned = 0 := ht.idle (Or.inr (Or.inr (Or.inl hc.1)))
    exact ht.same rfl (by simp [Sh.setTh]) rfl (by simp) ht.st (setb_lt ht.m1 (by have := ht.st; have := hw.size; rw [hsn] at *; omega)) ht.m3 ht.m4 (fun _ => ho) (by simp) (Or.inl rfl) (Or.inl rfl) ht.com ht.lck
  rw [if_neg k3] at h
  by_cases k4 : e.kind = 4
  · rw [if_pos k4] at h
    unfold lockS at h; split at h
    case isFalse => cases h
    rename_i hc
    cases h
    have hp := places_S (e := e) (V := s.vars) (S := s.n) (by omega) (by omega) hS.1
    have hai : e.at_.toNat < s.sts.length := by omega
    have hst := hstb _ hai
    refine hw.mk' (th := th) hlt (by simp [Sh.setTh, Sh.setSt, htn]; rfl) rfl (clk_same hw) (Or.inr ⟨e.at_.toNat, (e.th, s.ver e.at_), rfl, hai, by simp only; omega, by simp only; rw [ver_getD]; exact hst.2, Or.inl (by rw [← own_getD]; exact hc.2.2)⟩) ?_
    have hn' : ((s.setSt e.at_ (e.th, s.ver e.at_)).setTh e.th { t with at_ := 3, locked := e.at_, owned := setb t.owned e.at_.toNat }).n = s.n := by simp [Sh.n, Sh.setTh, Sh.setSt]
    refine ⟨by simp, by rw [hn']; exact ht.st, fun b hb => ?_, ht.m1, setb_lt ht.m2 (by omega), ht.m3, ht.m4, by simp, fun _ => setb_ne _ _, ht.rvb, ht.wvb, ht.com, ⟨by simp; omega, ht.lck.2.1, by simp; omega, ht.lck.2.2.2⟩⟩
    simp only [testBit_setb, Bool.or_eq_true, decide_eq_true_eq] at hb
    have hl : ((s.setSt e.at_ (e.th, s.ver e.at_)).setTh e.th { t with at_ := 3, locked := e.at_, owned := setb t.owned e.at_.toNat }).sts = s.sts.set e.at_.toNat (e.th, s.ver e.at_) := rfl
    rw [hl, List.length_set]
    by_cases hab : e.at_.toNat = b
    · subst hab; exact ⟨hai, by rw [getD_set_eq _ _ _ _ hai]; exact hthe⟩
    · rw [getD_set_ne _ _ _ _ _ hab]
      rcases hb with hb | hb
      · exact ht.own b hb
      · exact absurd hb hab
  rw [if_neg k4] at h
  by_cases k5 : e.kind = 5
  · rw [if_pos k5] at h
    unfold bumpS at h; split at h
    case isFalse => cases h
    rename_i hc
    cases h
    refine hw.mk' (th := th) hlt (by simp [Sh.setTh, htn]; rfl) rfl ⟨by simp [Sh.setTh]; omega, by simp [Sh.setTh]; omega⟩ (Or.inl rfl) ?_
    have ho := ht.busy (Or.inl hc.1)
    refine ht.same rfl (by simp [Sh.setTh]; omega) rfl (by simp) ht.st ht.m1 ht.m3 (by simp only; split; exact ht.m4; exact ht.m1) (by simp) (fun _ => ho) (Or.inl rfl) (Or.inr (by simp [Sh.setTh]; omega)) ht.com ht.lck
  rw [if_neg k5] at h
  by_cases k6 : e.kind = 6
  · rw [if_pos k6] at h
    unfold checkS at h; split at h
    case isFalse => cases h
    rename_i hc
    cases h
    refine hw.mk' (th := th) hlt (by simp [Sh.setTh, htn]; rfl) rfl (clk_same hw) (Or.inl rfl) ?_
    have ho := ht.busy (Or.inr (Or.inl hc.1))
    exact ht.same rfl (by simp [Sh.setTh]) rfl ht.at0 ht.st ht.m1 ht.m3 (clrb_lt ht.m4) ht.idle ht.busy (Or.inl rfl) (Or.inl rfl) ht.com ht.lck
  rw [if_neg k6] at h
  by_cases k7 : e.kind = 7
  · rw [if_pos k7] at h
    unfold commitS at h; split at h
    · rename_i hc
      cases h
      refine hw.mk' (th := th) hlt (by simp [Sh.setTh, htn]; rfl) rfl (clk_same hw) (Or.inl rfl) ?_
      have ho : t.owned = 0 := ht.idle (Or.inr (Or.inl hc.2))
      exact ht.same rfl (by simp [Sh.setTh]) rfl (by simp) ht.st ht.m1 ht.m3 ht.m4 (fun _ => ho) (by simp) (Or.inl rfl) (Or.inl rfl) (by have := ht.com; simp; omega) ht.lck
    · split at h
      case isFalse => cases h
      rename_i hc
      cases h
      refine hw.mk' (th := th) hlt (by simp [Sh.setTh, htn]; rfl) rfl (clk_same hw) (Or.inl rfl) ?_
      have ho := ht.busy (Or.inr (Or.inl hc.2.1))
      exact ht.same rfl (by simp [Sh.setTh]) rfl (by simp) ht.st ht.m1 ht.m3 ht.m4 (by simp) (fun _ => ho) (Or.inl rfl) (Or.inl rfl) ht.com ht.lck
  rw [if_neg k7] at h
  by_cases k8 : e.kind = 8
  · rw [if_pos k8] at h
    unfold storeS at h; split at h
    case isFalse => cases h
    rename_i hc
    cases h
    refine hw.mk' (th := th) hlt (by simp [Sh.setTh, htn]; rfl) rfl (clk_same hw) (Or.inl rfl) ?_
    have hmod := mod_in (a := e.at_) (n := s.n) (by rw [hsn]; have := hw.size; omega)
    exact ht.same rfl (by simp [Sh.setTh]) rfl ht.at0 ht.st ht.m1 (setb_lt ht.m3 (by have := hw.size; rw [hsn] at *; omega)) ht.m4 ht.idle ht.busy (Or.inl rfl) (Or.inl rfl) ht.com ⟨ht.lck.1, by simp; omega, ht.lck.2.2.1, by simp; omega⟩
  rw [if_neg k8] at h
  by_cases k9 : e.kind = 9
  · rw [if_pos k9] at h
    unfold freedS at h; split at h
    case isFalse => cases h
    rename_i hc
    have hp := places_S (e := e) (V := s.vars) (S := s.n) (by omega) (by omega) hS.1
    have hai : e.at_.toNat < s.sts.length := by omega
    have hbit : t.owned.testBit e.at_.toNat = true := by
      have : e.at_.toNat = leastb t.owned := by omega
      rw [this]; exact leastb_some (by omega)
    have hown := ht.own _ hbit
    have hcase : ∀ t', (t' = { t with at_ := 0, owned := clrb t.owned e.at_.toNat, commits := t.commits + 1 } ∧ clrb t.owned e.at_.toNat = 0) ∨ (t' = { t with at_ := 6, owned := clrb t.owned e.at_.toNat } ∧ clrb t.owned e.at_.toNat ≠ 0) → Wf ((s.setSt e.at_ (-1, t.wv)).setTh e.th t') := by
      intro t' ht'
      refine hw.mk' (th := th) (t' := t') hlt (by simp [Sh.setTh, Sh.setSt, htn]) rfl (clk_same hw) (Or.inr ⟨e.at_.toNat, (-1, t.wv), rfl, hai, ⟨by simp, by simp; omega⟩, by have := ht.wvb; have := hw.clk; simp; omega, Or.inr hown.2⟩) ?_
      have hn' : ((s.setSt e.at_ (-1, t.wv)).setTh e.th t').n = s.n := by simp [Sh.n, Sh.setTh, Sh.setSt]
      have hst : ((s.setSt e.at_ (-1, t.wv)).setTh e.th t').sts = s.sts.set e.at_.toNat (-1, t.wv) := rfl
      have hov : ∀ b, (clrb t.owned e.at_.toNat).testBit b = true → b < s.sts.length ∧ ((s.sts.set e.at_.toNat (-1, t.wv)).getD b (-1, 0)).1 = (th : Int) := by
        intro b hb
        rw [testBit_clrb, Bool.and_eq_true] at hb
        have hne : e.at_.toNat ≠ b := by simpa using hb.2
        rw [getD_set_ne _ _ _ _ _ hne]
        exact ht.own b hb.1
      rcases ht' with ⟨rfl, hz⟩ | ⟨rfl, hz⟩
      · exact ⟨by simp, by rw [hn']; exact ht.st, by rw [hst, List.length_set]; exact hov, ht.m1, clrb_lt ht.m2, ht.m3, ht.m4, fun _ => hz, by simp, ht.rvb, ht.wvb, by have := ht.com; simp; omega, ht.lck⟩
      · exact ⟨by simp, by rw [hn']; exact ht.st, by rw [hst, List.length_set]; exact hov, ht.m1, clrb_lt ht.m2, ht.m3, ht.m4, by simp, fun _ => hz, ht.rvb, ht.wvb, ht.com, ht.lck⟩
    cases h
    split
    · rename_i hz; exact hcase _ (Or.inl ⟨rfl, hz⟩)
    · rename_i hz; exact hcase _ (Or.inr ⟨rfl, hz⟩)
  rw [if_neg k9] at h
  by_cases k10 : e.kind = 10
  · rw [if_pos k10] at h
    unfold abortS at h; split at h
    case isFalse => cases h
    rename_i hc
    cases h
    refine hw.mk' (th := th) hlt (by simp [Sh.setTh, htn]; rfl) rfl (clk_same hw) (Or.inl rfl) ?_
    refine ht.same rfl (by simp [Sh.setTh]) rfl (by simp only; split <;> omega) ht.st ht.m1 ht.m3 ht.m4 (fun hx => ?_) (fun hx => ?_) (Or.inl rfl) (Or.inl rfl) ht.com ht.lck
    · simp only at hx; split at hx
      · assumption
      · omega
    · simp only at hx; split at hx
      · omega
      · assumption
  rw [if_neg k10] at h
  by_cases k11 : e.kind = 11
  · rw [if_pos k11] at h
    unfold undoS at h; split at h
    case isFalse => cases h
    rename_i hc
    have hp := places_S (e := e) (V := s.vars) (S := s.n) (by omega) (by omega) hS.1
    have hai : e.at_.toNat < s.sts.length := by omega
    have hst' := hstb _ hai
    have hbit : t.owned.testBit e.at_.toNat = true := by
      have : e.at_.toNat = leastb t.owned := by omega
      rw [this]; exact leastb_some (by omega)
    have hown := ht.own _ hbit
    cases h
    refine hw.mk' (th := th) hlt (by simp [Sh.setTh, Sh.setSt, htn]; rfl) rfl (clk_same hw) (Or.inr ⟨e.at_.toNat, (-1, s.ver e.at_), rfl, hai, ⟨by simp, by simp; omega⟩, by simp only; rw [ver_getD]; exact hst'.2, Or.inr hown.2⟩) ?_
    have hov : ∀ b, (clrb t.owned e.at_.toNat).testBit b = true → b < (s.sts.set e.at_.toNat (-1, s.ver e.at_)).length ∧ ((s.sts.set e.at_.toNat (-1, s.ver e.at_)).getD b (-1, 0)).1 = (th : Int) := by
      intro b hb
      rw [testBit_clrb, Bool.and_eq_true] at hb
      have hne : e.at_.toNat ≠ b := by simpa using hb.2
      rw [getD_set_ne _ _ _ _ _ hne, List.length_set]
      exact ht.own b hb.1
    refine ⟨by (simp only; split; (split <;> omega); omega), ?_, hov, ht.m1, clrb_lt ht.m2, ht.m3, ht.m4, fun hx => ?_, fun hx => ?_, ht.rvb, ht.wvb, ht.com, ht.lck⟩
    · have hn' : ((s.setSt e.at_ (-1, s.ver e.at_)).setTh e.th { t with at_ := if clrb t.owned e.at_.toNat = 0 then (if t.full then 9 else 0) else 7, owned := clrb t.owned e.at_.toNat }).n = s.n := by simp [Sh.n, Sh.setTh, Sh.setSt]
      rw [hn']; exact ht.st
    · simp only at hx; split at hx
      · assumption
      · omega
    · simp only at hx; split at hx
      · split at hx <;> omega
      · assumption
  rw [if_neg k11] at h
  by_cases k12 : e.kind = 12
  · rw [if_pos k12] at h
    unfold waitS at h; split at h
    case isFalse => cases h
    rename_i hc
    cases h
    refine hw.mk' (th := th) hlt (by simp [Sh.setTh, htn]; rfl) rfl (clk_same hw) (Or.inl rfl) ?_
    have ho : t.owned = 0 := ht.idle (Or.inr (Or.inl hc))
    exact ht.same rfl (by simp [Sh.setTh]) rfl (by simp) ht.st ht.m1 ht.m3 ht.m4 (fun _ => ho) (by simp) (Or.inl rfl) (Or.inl rfl) ht.com ht.lck
  rw [if_neg k12] at h
  unfold wakeS at h; split at h
  case isFalse => cases h
  rename_i hc
  cases h
  refine hw.mk' (th := th) hlt (by simp [Sh.setTh, htn]; rfl) rfl (clk_same hw) (Or.inl rfl) ?_
  have ho : t.owned = 0 := ht.idle (Or.inr (Or.inr (Or.inr (Or.inl hc.1))))
  exact ht.same rfl (by simp [Sh.setTh]) rfl (by simp) ht.st ht.m1 ht.m3 ht.m4 (fun _ => ho) (by simp) (Or.inl rfl) (Or.inl rfl) ht.com ht.lck
theorem runS_wf : ∀ (l : List Ev) {s s' : Sh}, Wf s → runS s l = some s' → Wf s'
  | [], s, s', hw, h => by unfold runS at h; cases h; exact hw
  | e :: l, s, s', hw, h => by
    unfold runS at h
    cases hs : stepS s e with
    | none => rw [hs] at h; cases h
    | some r => rw [hs] at h; exact runS_wf l (stepS_wf hw hs) h
end Go.Proofs.YtnmbacleaijhmaaDoor
