/-
  The checker's machine: what holds behind every event. Nothing of the program.
-/
import Derived.Test.YtnmbacleaijhmaaDoorShD
namespace Go.Proofs.YtnmbacleaijhmaaDoor
set_option linter.unusedVariables false

/-- What holds of a thread, and of the stripes as it sees them. -/
structure WfT (s : Sh) (i : Nat) (t : Th) : Prop where
  at0 : 0 ≤ t.at_ ∧ t.at_ ≤ 9
  st : 0 ≤ t.stripe ∧ t.stripe < s.n
  own : ∀ b, t.owned.testBit b = true → b < s.sts.length ∧ (s.sts.getD b (-1, 0)).1 = (i : Int)
  m1 : t.read < 4294967296
  m2 : t.owned < 4294967296
  m3 : t.stored < 4294967296
  m4 : t.check < 4294967296
  idle : t.at_ = 0 ∨ t.at_ = 1 ∨ t.at_ = 2 ∨ t.at_ = 8 ∨ t.at_ = 9 → t.owned = 0
  busy : t.at_ = 3 ∨ t.at_ = 4 ∨ t.at_ = 5 ∨ t.at_ = 6 ∨ t.at_ = 7 → t.owned ≠ 0
  rvb : 0 ≤ t.rv ∧ t.rv ≤ s.clock
  wvb : 0 ≤ t.wv ∧ t.wv ≤ s.clock
  com : 0 ≤ t.commits
  lck : t.locked < 32 ∧ t.var < 32 ∧ -1 ≤ t.locked ∧ -1 ≤ t.var
structure Wf (s : Sh) : Prop where
  size : 1 ≤ s.sts.length ∧ (s.sts.length : Int) ≤ s.vars ∧ s.vars ≤ 32 ∧ s.ths.length ≤ 6
  clk : 0 ≤ s.clock ∧ s.clock ≤ 1099511627776
  th : ∀ i, i < s.ths.length → WfT s i (s.ths.getD i Th.zero)
  stb : ∀ i, i < s.sts.length → (-1 ≤ (s.sts.getD i (-1, 0)).1 ∧ (s.sts.getD i (-1, 0)).1 < s.ths.length) ∧ 0 ≤ (s.sts.getD i (-1, 0)).2 ∧ (s.sts.getD i (-1, 0)).2 ≤ 1099511627776

theorem getD_set_eq {α : Type} (l : List α) (i : Nat) (x d : α) (h : i < l.length) : (l.set i x).getD i d = x := by
  simp [List.getD, h]
theorem getD_set_ne {α : Type} (l : List α) (i j : Nat) (x d : α) (h : i ≠ j) : (l.set i x).getD j d = l.getD j d := by
  simp [List.getD, List.getElem?_set_ne h]

/-- What mayE says of an event. -/
theorem mayE_of {e : Ev} {T V S : Int} (h : mayE e T V S = true) : (1 ≤ e.kind ∧ e.kind ≤ 13) ∧ (0 ≤ e.th ∧ e.th < T) ∧ (0 ≤ e.tx ∧ e.tx ≤ 5) ∧ (0 ≤ e.v ∧ e.v ≤ 1099511627776) ∧ (0 ≤ e.at_ ∧ e.at_ < placesE e V S) ∧ (1 ≤ S ∧ S ≤ V ∧ V ≤ 32 ∧ T ≤ 6) := by
  unfold mayE sizesB at h
  simp only [Bool.and_eq_true, decide_eq_true_eq] at h
  have hl : 0 ≤ leastV e := by unfold leastV; split <;> omega
  omega
theorem places_S {e : Ev} {V S : Int} (h1 : e.kind ≠ 3) (h2 : e.kind ≠ 8) (hS : 1 ≤ S) : placesE e V S ≤ S := by
  unfold placesE; rw [if_neg (by omega)]; split <;> omega
theorem places_V {e : Ev} {V S : Int} (hS : 1 ≤ S) (hV : S ≤ V) : placesE e V S ≤ V := by
  unfold placesE; split
  · omega
  · split <;> omega

/-- A step leaves the thread's record, the clock, and at most one stripe turned. -/
theorem Wf.mk' {s s' : Sh} (hw : Wf s) {th : Nat} {t' : Th} (hth : th < s.ths.length) (hths : s'.ths = s.ths.set th t') (hvars : s'.vars = s.vars)
    (hclk : s.clock ≤ s'.clock ∧ s'.clock ≤ 1099511627776)
    (hsts : s'.sts = s.sts ∨ ∃ a p, s'.sts = s.sts.set a p ∧ a < s.sts.length ∧ (-1 ≤ p.1 ∧ p.1 < s.ths.length) ∧ (0 ≤ p.2 ∧ p.2 ≤ 1099511627776) ∧ ((s.sts.getD a (-1, 0)).1 = -1 ∨ (s.sts.getD a (-1, 0)).1 = (th : Int)))
    (ht : WfT s' th t') : Wf s' := by
  have hlen : s'.sts.length = s.sts.length := by rcases hsts with h | ⟨a, p, h, -⟩ <;> rw [h] <;> simp
  have hn : s'.n = s.n := by unfold Sh.n; rw [hlen]
  refine ⟨?_, ?_, ?_, ?_⟩
  · rw [hlen, hvars, hths, List.length_set]; exact hw.size
  · have := hw.clk; omega
  · intro i hi
    rw [hths, List.length_set] at hi
    by_cases he : th = i
    · subst he
      rw [hths, getD_set_eq _ _ _ _ hi]; exact ht
    · rw [hths, getD_set_ne _ _ _ _ _ he]
      have h := hw.th i hi
      refine ⟨h.at0, by rw [hn]; exact h.st, fun b hb => ?_, h.m1, h.m2, h.m3, h.m4, h.idle, h.busy, ⟨h.rvb.1, by have := h.rvb.2; omega⟩, ⟨h.wvb.1, by have := h.wvb.2; omega⟩, h.com, h.lck⟩
      obtain ⟨h1, h2⟩ := h.own b hb
      refine ⟨by rw [hlen]; exact h1, ?_⟩
      rcases hsts with hs | ⟨a, p, hs, ha, -, -, hown⟩
      · rw [hs]; exact h2
      · rw [hs]
        by_cases hab : a = b
        · subst hab; omega
        · rw [getD_set_ne _ _ _ _ _ hab]; exact h2
  · intro i hi
    rw [hlen] at hi
    rw [hths, List.length_set]
    rcases hsts with hs | ⟨a, p, hs, ha, hp1, hp2, -⟩
    · rw [hs]; exact hw.stb i hi
    · rw [hs]
      by_cases hab : a = i
      · subst hab; rw [getD_set_eq _ _ _ _ ha]; exact ⟨hp1, hp2⟩
      · rw [getD_set_ne _ _ _ _ _ hab]; exact hw.stb i hi

theorem setb_ne (m s : Nat) : setb m s ≠ 0 := by
  intro h
  have := testBit_setb m s s
  rw [h, Nat.zero_testBit] at this
  simp at this

theorem newS_wf {T V S : Int} (h : sizeOk T V S = true) : Wf (newS T V S) := by
  unfold sizeOk at h
  rw [decide_eq_true_eq] at h
  have hz : ∀ i, i < T.toNat → (List.replicate T.toNat Th.zero).getD i Th.zero = Th.zero := by intro i hi; simp [List.getD, hi]
  have hs : ∀ i, i < S.toNat → (List.replicate S.toNat ((-1 : Int), (0 : Int))).getD i (-1, 0) = (-1, 0) := by intro i hi; simp [List.getD, hi]
  refine ⟨?_, by simp [newS], ?_, ?_⟩
  · simp only [newS, List.length_replicate]; omega
  · intro i hi
    simp only [newS, List.length_replicate] at hi
    show WfT _ i ((List.replicate T.toNat Th.zero).getD i Th.zero)
    rw [hz i hi]
    refine ⟨by simp [Th.zero], ?_, ?_, by simp [Th.zero], by simp [Th.zero], by simp [Th.zero], by simp [Th.zero], by simp [Th.zero], by simp [Th.zero], by simp [Th.zero, newS], by simp [Th.zero, newS], by simp [Th.zero], by simp [Th.zero]⟩
    · simp only [Th.zero, Sh.n, newS, List.length_replicate]; omega
    · intro b hb; simp [Th.zero] at hb
  · intro i hi
    simp only [newS, List.length_replicate] at hi
    show (-1 ≤ ((List.replicate S.toNat ((-1 : Int), (0 : Int))).getD i (-1, 0)).1 ∧ ((List.replicate S.toNat ((-1 : Int), (0 : Int))).getD i (-1, 0)).1 < ((List.replicate T.toNat Th.zero).length : Int)) ∧ 0 ≤ ((List.replicate S.toNat ((-1 : Int), (0 : Int))).getD i (-1, 0)).2 ∧ ((List.replicate S.toNat ((-1 : Int), (0 : Int))).getD i (-1, 0)).2 ≤ 1099511627776
    rw [hs i hi, List.length_replicate]; omega
end Go.Proofs.YtnmbacleaijhmaaDoor
