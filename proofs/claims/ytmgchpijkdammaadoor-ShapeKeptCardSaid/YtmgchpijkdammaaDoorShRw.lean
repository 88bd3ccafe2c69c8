/-
  The checker's machine: what each event says, for the law on a thread's row. Nothing of the program.
-/
import Derived.Test.YtmgchpijkdammaaDoorShP
namespace Go.Proofs.YtmgchpijkdammaaDoor
set_option linter.unusedVariables false

/-- What the law keeps of a thread within an attempt: what it locked, what it stored. -/
structure RowT (n : Int) (t : Th) (lk st : List Int) : Prop where
  bits : 1 ≤ t.at_ → t.at_ ≤ 5 → ∀ b : Nat, t.owned.testBit b = true ↔ (b : Int) ∈ lk
  lks : 1 ≤ t.at_ → t.at_ ≤ 5 → ∀ x ∈ lk, 0 ≤ x ∧ x ≤ t.locked
  sts : 1 ≤ t.at_ → t.at_ ≤ 5 → ∀ x ∈ st, 0 ≤ x ∧ x ≤ t.var
  sbits : 1 ≤ t.at_ → t.at_ ≤ 5 → ∀ b : Nat, t.stored.testBit b = true ↔ ∃ x ∈ st, x % n = (b : Int)
  most : 3 ≤ t.at_ → t.at_ ≤ 6 → lk.getLast? = some t.locked ∧ 0 ≤ t.locked ∧ t.owned.testBit t.locked.toNat = true ∧ ∀ b : Nat, t.owned.testBit b = true → (b : Int) ≤ t.locked
  cov : t.at_ = 6 → ∀ x ∈ lk, ∃ y ∈ st, y % n = x
  idle : t.at_ = 1 ∨ t.at_ = 2 → lk = [] ∧ st = []
  sts6 : t.at_ = 6 → ∀ x ∈ st, 0 ≤ x
def RowL (s : Sh) (cm : Nat → Int) (lk st : Nat → List Int) : Prop :=
  ∀ i, i < s.ths.length → cm i = (s.ths.getD i Th.zero).commits ∧ RowT s.n (s.ths.getD i Th.zero) (lk i) (st i)
def updL (f : Nat → List Int) (i : Nat) (x : List Int) : Nat → List Int := fun j => if j = i then x else f j
theorem updL_eq (f : Nat → List Int) (i : Nat) (x : List Int) : updL f i x i = x := if_pos rfl
theorem updL_ne (f : Nat → List Int) {i j : Nat} (x : List Int) (h : j ≠ i) : updL f i x j = f j := if_neg h
theorem updL_self (f : Nat → List Int) (i : Nat) : updL f i (f i) = f := by funext j; unfold updL; split <;> simp_all
theorem upd_self (f : Nat → Int) (i : Nat) : upd f i (f i) = f := by funext j; unfold upd; split <;> simp_all

theorem RowL.keep {s s' : Sh} {cm : Nat → Int} {lk st : Nat → List Int} (h : RowL s cm lk st) {th : Nat} {t' : Th} {c : Int} {a b : List Int}
    (hths : s'.ths = s.ths.set th t') (hn : s'.n = s.n) (hlt : th < s.ths.length) (hc : c = t'.commits) (ht : RowT s.n t' a b) : RowL s' (upd cm th c) (updL lk th a) (updL st th b) := by
  intro i hi
  rw [hths, List.length_set] at hi
  rw [hths, hn]
  by_cases he : th = i
  · subst he
    rw [getD_set_eq _ _ _ _ hlt, updL_eq, updL_eq]
    exact ⟨by simp [upd, hc], ht⟩
  · rw [getD_set_ne _ _ _ _ _ he, updL_ne _ _ (Ne.symm he), updL_ne _ _ (Ne.symm he)]
    refine ⟨?_, (h i hi).2⟩
    simp only [upd, if_neg (Ne.symm he)]
    exact (h i hi).1
/-- A thread that is in no attempt (or aborts, or waits) has nothing that is kept. -/
theorem RowT.none {n : Int} {t : Th} {a b : List Int} (h : t.at_ = 0 ∨ 7 ≤ t.at_) : RowT n t a b :=
  ⟨by omega, by omega, by omega, by omega, by omega, by omega, by omega, by omega⟩
theorem RowL.new (T V S : Int) (lk st : Nat → List Int) : RowL (newS T V S) (fun _ => 0) lk st := by
  intro i hi
  have e : (newS T V S).ths.getD i Th.zero = Th.zero := by
    simp only [newS, List.getD_eq_getElem?_getD, List.getElem?_replicate]
    split <;> rfl
  rw [e]
  exact ⟨rfl, RowT.none (Or.inl rfl)⟩
theorem getLast?_mem {l : List Int} {x : Int} (h : x ∈ l.getLast?) : x ∈ l := List.mem_of_getLast? h

theorem row_step {s s' : Sh} {e : Ev} {cm : Nat → Int} {lk st : Nat → List Int} (hw : Wf s) (hj : RowL s cm lk st) (h : stepS s e = some s') :
    e.th.toNat < 6 ∧ (0 ≤ e.th ∧ e.th < 6) ∧
    (e.kind = 1 → e.tx = cm e.th.toNat ∧ RowL s' cm (updL lk e.th.toNat []) (updL st e.th.toNat [])) ∧
    (e.kind = 4 → (∀ x ∈ (lk e.th.toNat).getLast?, x < e.at_) ∧ RowL s' cm (updL lk e.th.toNat (lk e.th.toNat ++ [e.at_])) st) ∧
    (e.kind = 8 → (0 ≤ e.at_ ∧ (∀ x ∈ (st e.th.toNat).getLast?, x < e.at_) ∧ e.at_ % s.n ∈ lk e.th.toNat) ∧ RowL s' cm lk (updL st e.th.toNat (st e.th.toNat ++ [e.at_]))) ∧
    (e.kind = 7 → RowL s' (if e.v = 0 then upd cm e.th.toNat (cm e.th.toNat + 1) else cm) lk st) ∧
    (e.kind = 9 → ((∀ x ∈ st e.th.toNat, 0 ≤ x) ∧ (∀ x ∈ lk e.th.toNat, ∃ y ∈ st e.th.toNat, y % s.n = x) ∧ lk e.th.toNat ≠ []) ∧ RowL s' (if (lk e.th.toNat).getLast? = some e.at_ then upd cm e.th.toNat (cm e.th.toNat + 1) else cm) lk st) ∧
    (e.kind ≠ 1 → e.kind ≠ 4 → e.kind ≠ 8 → e.kind ≠ 7 → e.kind ≠ 9 → RowL s' cm lk st) := by
  obtain ⟨th, hthe, htn, hlt, hm, hk, hat, hatS, hmod, hv, hd⟩ := stepS_inv hw h
  have ht := hw.th th hlt
  have hsz := hw.size
  have hsn : s.n = s.sts.length := rfl
  obtain ⟨hcm, hr⟩ := hj th hlt
  rw [htn]
  have K : ∀ {q : Sh} {t' : Th} {c : Int} {a b : List Int}, q.ths = s.ths → q.sts.length = s.sts.length → c = t'.commits → RowT s.n t' a b → RowL (q.setTh e.th t') (upd cm th c) (updL lk th a) (updL st th b) := by
    intro q t' c a b h1 h2 h3 h4
    exact hj.keep (by simp only [Sh.setTh, h1, htn]) (by simp [Sh.n, Sh.setTh, h2]) hlt h3 h4
  -- nothing of the law's own turns
  have K0 : ∀ {q : Sh} {t' : Th}, q.ths = s.ths → q.sts.length = s.sts.length → cm th = t'.commits → RowT s.n t' (lk th) (st th) → RowL (q.setTh e.th t') cm lk st := by
    intro q t' h1 h2 h3 h4
    have := K h1 h2 h3 h4
    rwa [upd_self, updL_self, updL_self] at this
  refine ⟨by omega, by omega, ?_⟩
  generalize hT : s.ths.getD th Th.zero = t at *
  unfold doesS at hd
  by_cases k1 : e.kind = 1
  · rw [if_pos k1] at hd
    unfold beginS at hd; split at hd
    case isFalse => cases hd
    rename_i hc
    cases hd
    refine ⟨fun _ => ⟨by omega, ?_⟩, by omega, by omega, by omega, by omega, by omega⟩
    have := K (q := { s with clock := e.v }) (t' := ⟨1, t.commits, e.v, 0, 0, 0, 0, 0, 0, 0, -1, -1, false⟩) (c := cm th) (a := []) (b := []) rfl rfl hcm
      ⟨by simp, by simp, by simp, by simp, by simp, by simp, by simp, by simp⟩
    rwa [upd_self] at this
  rw [if_neg k1] at hd
  by_cases k2 : e.kind = 2
  · rw [if_pos k2] at hd
    unfold lookS at hd; split at hd
    case isFalse => cases hd
    rename_i hc
    cases hd
    refine ⟨by omega, by omega, by omega, by omega, by omega, fun _ _ _ _ _ => K0 rfl (by simp [Sh.setSt]) hcm ?_⟩
    obtain ⟨e1, e2⟩ := hr.idle (Or.inl hc.1)
    exact ⟨fun _ _ => hr.bits (by omega) (by omega), fun _ _ => hr.lks (by omega) (by omega), fun _ _ => hr.sts (by omega) (by omega), fun _ _ => hr.sbits (by omega) (by omega), by simp, by simp, fun _ => ⟨e1, e2⟩, by simp⟩
  rw [if_neg k2] at hd
  by_cases k3 : e.kind = 3
  · rw [if_pos k3] at hd
    unfold loadS at hd; split at hd
    case isFalse => cases hd
    rename_i hc
    cases hd
    refine ⟨by omega, by omega, by omega, by omega, by omega, fun _ _ _ _ _ => K0 rfl rfl hcm ?_⟩
    obtain ⟨e1, e2⟩ := hr.idle (Or.inr hc.1)
    exact ⟨fun _ _ => hr.bits (by omega) (by omega), fun _ _ => hr.lks (by omega) (by omega), fun _ _ => hr.sts (by omega) (by omega), fun _ _ => hr.sbits (by omega) (by omega), by simp, by simp, fun _ => ⟨e1, e2⟩, by simp⟩
  rw [if_neg k3] at hd
  by_cases k4 : e.kind = 4
  · rw [if_pos k4] at hd
    unfold lockS at hd; split at hd
    case isFalse => cases hd
    rename_i hc
    cases hd
    have hb := hr.bits (by omega) (by omega)
    have hl := hr.lks (by omega) (by omega)
    refine ⟨by omega, fun _ => ⟨fun x hx => by have := hl x (getLast?_mem hx); omega, ?_⟩, by omega, by omega, by omega, by omega⟩
    have := K (q := s.setSt e.at_ (e.th, s.ver e.at_)) (t' := { t with at_ := 3, locked := e.at_, owned := setb t.owned e.at_.toNat }) (c := cm th) (a := lk th ++ [e.at_]) (b := st th) rfl (by simp [Sh.setSt]) hcm
      ⟨fun _ _ b => by
        simp only [testBit_setb, Bool.or_eq_true, decide_eq_true_eq, hb b, List.mem_append, List.mem_singleton]
        constructor <;> (rintro (h1 | h1); exact Or.inl h1; exact Or.inr (by omega)),
       fun _ _ x hx => by
        rcases List.mem_append.1 hx with hx | hx
        · have := hl x hx; simp only; omega
        · rw [List.mem_singleton] at hx; simp only; omega,
       fun _ _ => hr.sts (by omega) (by omega), fun _ _ => hr.sbits (by omega) (by omega),
       fun _ _ => ⟨by simp, by simp only; omega, by simp [testBit_setb], fun b hb' => by
        simp only [testBit_setb, Bool.or_eq_true, decide_eq_true_eq, hb b] at hb'
        rcases hb' with hb' | hb'
        · have := hl _ hb'; simp only; omega
        · simp only; omega⟩, by simp, by simp, by simp⟩
    rwa [upd_self, updL_self] at this
  rw [if_neg k4] at hd
  by_cases k5 : e.kind = 5
  · rw [if_pos k5] at hd
    unfold bumpS at hd; split at hd
    case isFalse => cases hd
    rename_i hc
    cases hd
    refine ⟨by omega, by omega, by omega, by omega, by omega, fun _ _ _ _ _ => K0 (q := { s with clock := e.v }) rfl rfl hcm ?_⟩
    exact ⟨fun _ _ => hr.bits (by omega) (by omega), fun _ _ => hr.lks (by omega) (by omega), fun _ _ => hr.sts (by omega) (by omega), fun _ _ => hr.sbits (by omega) (by omega), fun _ _ => hr.most (by omega) (by omega), by simp, by simp, by simp⟩
  rw [if_neg k5] at hd
  by_cases k6 : e.kind = 6
  · rw [if_pos k6] at hd
    unfold checkS at hd; split at hd
    case isFalse => cases hd
    rename_i hc
    cases hd
    refine ⟨by omega, by omega, by omega, by omega, by omega, fun _ _ _ _ _ => K0 rfl rfl hcm ?_⟩
    exact ⟨fun _ _ => hr.bits (by omega) (by omega), fun _ _ => hr.lks (by omega) (by omega), fun _ _ => hr.sts (by omega) (by omega), fun _ _ => hr.sbits (by omega) (by omega), fun _ _ => hr.most (by omega) (by omega), by simp; omega, by simp; omega, by simp; omega⟩
  rw [if_neg k6] at hd
  by_cases k7 : e.kind = 7
  · rw [if_pos k7] at hd
    unfold commitS at hd; split at hd
    · rename_i hc
      cases hd
      refine ⟨by omega, by omega, by omega, fun _ => ?_, by omega, by omega⟩
      rw [if_pos hc.1]
      have := K (q := s) (t' := { t with at_ := 0, commits := t.commits + 1 }) (c := cm th + 1) (a := lk th) (b := st th) rfl rfl (by simp only; omega) (RowT.none (Or.inl rfl))
      rwa [updL_self, updL_self] at this
    · split at hd
      case isFalse => cases hd
      rename_i hc
      cases hd
      refine ⟨by omega, by omega, by omega, fun _ => ?_, by omega, by omega⟩
      rw [if_neg hc.1]
      refine K0 rfl rfl hcm ?_
      exact ⟨fun _ _ => hr.bits (by omega) (by omega), fun _ _ => hr.lks (by omega) (by omega), fun _ _ => hr.sts (by omega) (by omega), fun _ _ => hr.sbits (by omega) (by omega), fun _ _ => hr.most (by omega) (by omega), by simp, by simp, by simp⟩
  rw [if_neg k7] at hd
  by_cases k8 : e.kind = 8
  · rw [if_pos k8] at hd
    unfold storeS at hd; split at hd
    case isFalse => cases hd
    rename_i hc
    cases hd
    have hb := hr.bits (by omega) (by omega)
    have hs := hr.sts (by omega) (by omega)
    have hsb := hr.sbits (by omega) (by omega)
    refine ⟨by omega, by omega, fun _ => ⟨⟨hat.1, fun x hx => by have := hs x (getLast?_mem hx); omega, ?_⟩, ?_⟩, by omega, by omega, by omega⟩
    · have := (hb _).1 hc.2.2
      rwa [Int.toNat_of_nonneg hmod.1] at this
    · have := K (q := s) (t' := { t with var := e.at_, stored := setb t.stored (e.at_ % s.n).toNat }) (c := cm th) (a := lk th) (b := st th ++ [e.at_]) rfl rfl hcm
        ⟨fun _ _ => hb, fun _ _ => hr.lks (by omega) (by omega), fun _ _ x hx => by
          rcases List.mem_append.1 hx with hx | hx
          · have := hs x hx; simp only; omega
          · rw [List.mem_singleton] at hx; simp only; omega,
         fun _ _ b => by
          simp only [testBit_setb, Bool.or_eq_true, decide_eq_true_eq, hsb b]
          constructor
          · rintro (⟨x, h1, h2⟩ | h1)
            · exact ⟨x, List.mem_append_left _ h1, h2⟩
            · exact ⟨e.at_, List.mem_append_right _ (List.mem_singleton.2 rfl), by omega⟩
          · rintro ⟨x, h1, h2⟩
            rcases List.mem_append.1 h1 with h1 | h1
            · exact Or.inl ⟨x, h1, h2⟩
            · rw [List.mem_singleton] at h1; subst h1; exact Or.inr (by omega),
         fun _ _ => hr.most (by omega) (by omega), by simp; omega, by simp; omega, by simp; omega⟩
      rwa [upd_self, updL_self] at this
  rw [if_neg k8] at hd
  by_cases k9 : e.kind = 9
  · rw [if_pos k9] at hd
    unfold freedS at hd; split at hd
    case isFalse => cases hd
    rename_i hc
    cases hd
    have hmost := hr.most (by omega) (by omega)
    have hcov : ∀ x ∈ lk th, ∃ y ∈ st th, y % s.n = x := by
      rcases hc.1 with h6 | ⟨h5, hso⟩
      · exact hr.cov h6
      · intro x hx
        have h1 := hr.lks (by omega) (by omega) x hx
        have h2 := (hr.bits (by omega) (by omega) x.toNat).2 (by rw [Int.toNat_of_nonneg h1.1]; exact hx)
        rw [← hso] at h2
        obtain ⟨y, h3, h4⟩ := (hr.sbits (by omega) (by omega) x.toNat).1 h2
        exact ⟨y, h3, by omega⟩
    have hpos : ∀ x ∈ st th, 0 ≤ x := by
      rcases hc.1 with h6 | ⟨h5, hso⟩
      · exact hr.sts6 h6
      · exact fun x hx => (hr.sts (by omega) (by omega) x hx).1
    have hne : lk th ≠ [] := by intro h0; rw [h0] at hmost; simp at hmost
    obtain ⟨h1, h2⟩ := hatS (by omega) (by omega)
    refine ⟨by omega, by omega, by omega, by omega, fun _ => ⟨⟨hpos, hcov, hne⟩, ?_⟩, by omega⟩
    have hiff : clrb t.owned e.at_.toNat = 0 ↔ t.locked = e.at_ := by
      constructor
      · intro hz
        have := testBit_clrb t.owned e.at_.toNat t.locked.toNat
        rw [hz, Nat.zero_testBit, hmost.2.2.1] at this
        simp at this
        omega
      · intro hz
        refine zero_of_testBit (clrb_lt ht.m2) fun i hi => ?_
        rw [testBit_clrb]
        by_cases hb : t.owned.testBit i = true
        · have h3 := hmost.2.2.2 i hb
          have h4 := leastb_min hb hi
          have : e.at_.toNat = i := by omega
          simp [this]
        · simp [hb]
    rw [hmost.1]
    by_cases hz : clrb t.owned e.at_.toNat = 0
    · rw [if_pos hz, if_pos (by rw [hiff.1 hz])]
      have := K (q := s.setSt e.at_ (-1, t.wv)) (t' := { t with at_ := 0, owned := clrb t.owned e.at_.toNat, commits := t.commits + 1 }) (c := cm th + 1) (a := lk th) (b := st th) rfl (by simp [Sh.setSt]) (by simp only; omega) (RowT.none (Or.inl rfl))
      rwa [updL_self, updL_self] at this
    · rw [if_neg hz, if_neg (by intro h0; exact hz (hiff.2 (Option.some.inj h0)))]
      refine K0 rfl (by simp [Sh.setSt]) hcm ?_
      refine ⟨by simp, by simp, by simp, by simp, fun _ _ => ⟨hmost.1, hmost.2.1, ?_, fun b hb => ?_⟩, fun _ => hcov, by simp, fun _ => hpos⟩
      · rw [testBit_clrb, hmost.2.2.1]
        have : ¬ t.locked = e.at_ := fun h0 => hz (hiff.2 h0)
        simp; omega
      · rw [testBit_clrb, Bool.and_eq_true] at hb
        exact hmost.2.2.2 b hb.1
  rw [if_neg k9] at hd
  by_cases k10 : e.kind = 10
  · rw [if_pos k10] at hd
    unfold abortS at hd; split at hd
    case isFalse => cases hd
    cases hd
    exact ⟨by omega, by omega, by omega, by omega, by omega, fun _ _ _ _ _ => K0 rfl rfl hcm (RowT.none (by simp only; split; exact Or.inl rfl; exact Or.inr (by decide)))⟩
  rw [if_neg k10] at hd
  by_cases k11 : e.kind = 11
  · rw [if_pos k11] at hd
    unfold undoS at hd; split at hd
    case isFalse => cases hd
    cases hd
    exact ⟨by omega, by omega, by omega, by omega, by omega, fun _ _ _ _ _ => K0 rfl (by simp [Sh.setSt]) hcm (RowT.none (by simp only; (repeat' split) <;> first | exact Or.inl rfl | exact Or.inr (by decide)))⟩
  rw [if_neg k11] at hd
  by_cases k12 : e.kind = 12
  · rw [if_pos k12] at hd
    unfold waitS at hd; split at hd
    case isFalse => cases hd
    cases hd
    exact ⟨by omega, by omega, by omega, by omega, by omega, fun _ _ _ _ _ => K0 rfl rfl hcm (RowT.none (Or.inr (show (7:Int) ≤ 8 by decide)))⟩
  rw [if_neg k12] at hd
  unfold wakeS at hd; split at hd
  case isFalse => cases hd
  cases hd
  exact ⟨by omega, by omega, by omega, by omega, by omega, fun _ _ _ _ _ => K0 rfl rfl hcm (RowT.none (Or.inl rfl))⟩
end Go.Proofs.YtmgchpijkdammaaDoor
