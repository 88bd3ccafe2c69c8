/-
  How many reads and writes attempts have, event by event: the plain law of HistoryEach's counters. Nothing of the program.
-/
import Derived.Test.YtjckgagkkknmnaaDoorHiG1
namespace Go.Proofs.YtjckgagkkknmnaaDoor
set_option linter.unusedVariables false
set_option linter.unusedSimpArgs false
set_option linter.unusedVariables false
/-- How many reads (false) or writes (true) attempt k has behind i events. -/
def cntR (b : Bool) (l : List Ev) (i k : Nat) : Nat := match b with
  | false => ((histT (l.take i)).out.getD k Att.zero).reads.length
  | true => ((histT (l.take i)).out.getD k Att.zero).writes.length
def begN (l : List Ev) (i : Nat) : Nat := (histT (l.take i)).out.length
theorem begN_zero (l : List Ev) : begN l 0 = 0 := rfl
theorem getD_snoc_zero {L : List Att} (x : Att) (k : Nat) (hr : x.reads = [] ∧ x.writes = []) : ((L ++ [x]).getD k Att.zero).reads = (L.getD k Att.zero).reads ∧ ((L ++ [x]).getD k Att.zero).writes = (L.getD k Att.zero).writes := by
  simp only [List.getD_eq_getElem?_getD]
  rcases Nat.lt_trichotomy k L.length with h | h | h
  · rw [List.getElem?_append_left h]; exact ⟨rfl, rfl⟩
  · subst h
    rw [List.getElem?_append_right (Nat.le_refl _), Nat.sub_self, List.getElem?_eq_none (Nat.le_refl _)]
    exact hr
  · rw [List.getElem?_eq_none (show (L ++ [x]).length ≤ k by simp; omega), List.getElem?_eq_none (by omega)]; exact ⟨rfl, rfl⟩
/-- One event, and the counters. K: the event's attempt. -/
structure CntI (l : List Ev) (i : Nat) (e : Ev) : Prop where
  beg : begN l (i + 1) = begN l i + if e.kind = 1 then 1 else 0
  oth : ∀ (b : Bool), e.kind ≠ (if b then 8 else 3) → ∀ k, cntR b l (i + 1) k = cntR b l i k
  one : ∀ (b : Bool) (K : Nat), ofI l i = (K : Int) → e.kind = (if b then 8 else 3) → cntR b l (i + 1) K = cntR b l i K + 1 ∧ ∀ k, k ≠ K → cntR b l (i + 1) k = cntR b l i k
theorem Hist.cnt {T V S : Int} {l : List Ev} {s : Sh} (h : Hist T V S l s) {i : Nat} (hi : i < l.length) : CntI l i l[i] := by
  have hst := histT_step hi
  unfold stepH at hst
  by_cases k1 : l[i].kind = 1
  · rw [if_pos k1] at hst
    have hsame : ∀ (b : Bool) k, cntR b l (i + 1) k = cntR b l i k := fun b k => by
      obtain ⟨h1, h2⟩ := getD_snoc_zero (L := (histT (l.take i)).out) (newA l[i] i) k ⟨rfl, rfl⟩
      unfold cntR
      rw [hst]
      cases b
      · exact congrArg List.length h1
      · exact congrArg List.length h2
    refine ⟨?_, fun b _ k => hsame b k, fun b K _ hb => ?_⟩
    · rw [if_pos k1]; unfold begN; rw [hst]; simp
    · exfalso; cases b <;> simp at hb <;> omega
  · rw [if_neg k1] at hst
    by_cases k13 : l[i].kind = 13
    · rw [if_pos k13] at hst
      have hsame : ∀ (b : Bool) k, cntR b l (i + 1) k = cntR b l i k := fun b k => by unfold cntR; rw [hst]
      refine ⟨?_, fun b _ k => hsame b k, fun b K _ hb => ?_⟩
      · rw [if_neg k1]; unfold begN; rw [hst]; rfl
      · exfalso; cases b <;> simp at hb <;> omega
    · rw [if_neg k13] at hst
      obtain ⟨r, r', hr, hs, hr'⟩ := h.step hi
      have hlen : ((l.take i).length : Int) = i := by rw [List.length_take, Nat.min_eq_left (Nat.le_of_lt hi)]
      have hI := hr.hi
      rw [hlen] at hI
      obtain ⟨a, o, h1, h2, h3, h4, h5⟩ := hi_mid hr.wf hI hs k1 k13
      rw [getD_of_get? h1, getD_of_get? h2] at hst
      have hl := (List.getElem?_eq_some_iff.1 h1).1
      have ho : ofI l i = ((histT (l.take i)).last l[i].th : Nat) := by rw [ofI_eq hi]; unfold ofH; rw [if_neg k1, if_neg k13]
      have hgo : (histT (l.take i)).out.getD ((histT (l.take i)).last l[i].th) Att.zero = a := getD_of_get? h1
      have hne : ∀ k, k ≠ (histT (l.take i)).last l[i].th → (histT (l.take (i + 1))).out.getD k Att.zero = (histT (l.take i)).out.getD k Att.zero := fun k hk => by
        rw [hst]
        simp only [List.getD_eq_getElem?_getD]
        rw [List.getElem?_set_ne (fun e => hk e.symm)]
      have heq : (histT (l.take (i + 1))).out.getD ((histT (l.take i)).last l[i].th) Att.zero = turnA a o l[i] i := by
        rw [hst]; exact getD_set_eq _ _ _ _ hl
      have hrd : l[i].kind ≠ 3 → (turnA a o l[i] i).reads = a.reads := fun hk => by
        unfold turnA
        repeat' split
        all_goals first | rfl | (exfalso; omega)
      have hwr : l[i].kind ≠ 8 → (turnA a o l[i] i).writes = a.writes := fun hk => by
        unfold turnA
        repeat' split
        all_goals first | rfl | (exfalso; omega)
      refine ⟨?_, fun b hb k => ?_, fun b K hK hb => ?_⟩
      · rw [if_neg k1]; unfold begN; rw [hst]; simp
      · by_cases hk : k = (histT (l.take i)).last l[i].th
        · subst hk
          unfold cntR
          rw [heq, hgo]
          cases b
          · exact congrArg List.length (hrd hb)
          · exact congrArg List.length (hwr hb)
        · unfold cntR; rw [hne k hk]
      · rw [ho] at hK
        obtain rfl : (histT (l.take i)).last l[i].th = K := by omega
        refine ⟨?_, fun k hk => by unfold cntR; rw [hne k hk]⟩
        unfold cntR
        rw [heq, hgo]
        cases b
        · have hb : l[i].kind = 3 := hb
          show (turnA a o l[i] i).reads.length = a.reads.length + 1
          unfold turnA
          rw [if_pos hb]; simp
        · have hb : l[i].kind = 8 := hb
          show (turnA a o l[i] i).writes.length = a.writes.length + 1
          unfold turnA
          rw [if_neg (by omega), if_pos hb]; simp
end Go.Proofs.YtjckgagkkknmnaaDoor
