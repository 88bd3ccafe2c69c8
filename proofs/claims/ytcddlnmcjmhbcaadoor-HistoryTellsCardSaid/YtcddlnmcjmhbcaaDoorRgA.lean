/-
  Joined texts: ShP RcD RcP RcQ.
-/
import Derived.Test.YtcddlnmcjmhbcaaDoorRgF
/-
  The checker's machine: what each event says, for the laws on owners and versions. Nothing of the program.
-/
namespace Go.Proofs.YtcddlnmcjmhbcaaDoor
set_option linter.unusedVariables false

def stO (s : Sh) (i : Nat) : Int := (s.sts.getD i (-1, 0)).1
def stV (s : Sh) (i : Nat) : Int := (s.sts.getD i (-1, 0)).2
theorem stepS_inv {s s' : Sh} {e : Ev} (hw : Wf s) (h : stepS s e = some s') : ∃ th : Nat, e.th = (th : Int) ∧ e.th.toNat = th ∧ th < s.ths.length ∧ mayE e s.ths.length s.vars s.n = true ∧ (1 ≤ e.kind ∧ e.kind ≤ 13) ∧
    (0 ≤ e.at_ ∧ e.at_ < s.vars ∧ s.vars ≤ 32) ∧ (e.kind ≠ 3 → e.kind ≠ 8 → e.at_ < s.n ∧ e.at_.toNat < s.sts.length) ∧ (0 ≤ e.at_ % s.n ∧ e.at_ % s.n < s.n) ∧ (0 ≤ e.v ∧ e.v ≤ 1099511627776) ∧ doesS s (s.ths.getD th Th.zero) e = some s' := by
  unfold stepS at h
  split at h
  case isFalse => cases h
  rename_i hm
  obtain ⟨hk, hth, htx, hv, hat, hS⟩ := mayE_of hm
  obtain ⟨th, hthe⟩ := Int.eq_ofNat_of_zero_le hth.1
  have hlt : th < s.ths.length := by omega
  have htn : e.th.toNat = th := by omega
  have hT : s.th e.th = s.ths.getD th Th.zero := by unfold Sh.th; rw [htn]
  rw [hT] at h
  have hpv := places_V (e := e) hS.1 hS.2.1
  refine ⟨th, hthe, htn, hlt, hm, hk, ⟨hat.1, by omega, by omega⟩, fun h3 h8 => ?_, mod_in hS.1, hv, h⟩
  have hp := places_S (e := e) (V := s.vars) (S := s.n) h3 h8 hS.1
  have : s.n = s.sts.length := rfl
  omega

/-- What an event says of the stripes' owners. -/
theorem owner_step {s s' : Sh} {e : Ev} (hw : Wf s) (h : stepS s e = some s') :
    (e.kind = 4 → (e.at_.toNat < 32 ∧ stO s e.at_.toNat = -1 ∧ ∀ i, stO s' i = if i = e.at_.toNat then e.th else stO s i)) ∧
    (e.kind = 9 ∨ e.kind = 11 → (e.at_.toNat < 32 ∧ stO s e.at_.toNat = e.th ∧ ∀ i, stO s' i = if i = e.at_.toNat then -1 else stO s i)) ∧
    (e.kind = 2 → (e.at_.toNat < 32 ∧ stO s e.at_.toNat = -1)) ∧
    (e.kind = 3 → ((e.at_ % s.n).toNat < 32 ∧ stO s (e.at_ % s.n).toNat = -1)) ∧
    (e.kind = 8 → ((e.at_ % s.n).toNat < 32 ∧ stO s (e.at_ % s.n).toNat = e.th)) ∧
    (e.kind ≠ 4 → e.kind ≠ 9 → e.kind ≠ 11 → ∀ i, stO s' i = stO s i) := by
  obtain ⟨th, hthe, htn, hlt, hm, hk, hat, hatS, hmod, hv, hd⟩ := stepS_inv hw h
  have ht := hw.th th hlt
  generalize s.ths.getD th Th.zero = t at hd ht
  have hsz := hw.size
  have hsn : s.n = s.sts.length := rfl
  have same : ∀ (t' : Th) (i : Nat), stO (s.setTh e.th t') i = stO s i := fun _ _ => rfl
  unfold doesS at hd
  by_cases k1 : e.kind = 1
  · rw [if_pos k1] at hd
    unfold beginS at hd; split at hd
    case isFalse => cases hd
    cases hd
    exact ⟨by omega, by omega, by omega, by omega, by omega, fun _ _ _ _ => rfl⟩
  rw [if_neg k1] at hd
  by_cases k2 : e.kind = 2
  · rw [if_pos k2] at hd
    unfold lookS at hd; split at hd
    case isFalse => cases hd
    rename_i hc
    cases hd
    obtain ⟨h1, h2⟩ := hatS (by omega) (by omega)
    refine ⟨by omega, by omega, fun _ => ⟨by omega, hc.2.1⟩, by omega, by omega, fun _ _ _ i => ?_⟩
    show ((s.sts.set e.at_.toNat (-1, e.v)).getD i (-1, 0)).1 = _
    by_cases hi : e.at_.toNat = i
    · subst hi; rw [getD_set_eq _ _ _ _ h2]; exact hc.2.1.symm
    · rw [getD_set_ne _ _ _ _ _ hi]; rfl
  rw [if_neg k2] at hd
  by_cases k3 : e.kind = 3
  · rw [if_pos k3] at hd
    unfold loadS at hd; split at hd
    case isFalse => cases hd
    rename_i hc
    cases hd
    exact ⟨by omega, by omega, by omega, fun _ => ⟨by omega, by have := hc.2.2.1; rw [← hc.2.1] at this; exact this⟩, by omega, fun _ _ _ _ => rfl⟩
  rw [if_neg k3] at hd
  by_cases k4 : e.kind = 4
  · rw [if_pos k4] at hd
    unfold lockS at hd; split at hd
    case isFalse => cases hd
    rename_i hc
    cases hd
    obtain ⟨h1, h2⟩ := hatS (by omega) (by omega)
    refine ⟨fun _ => ⟨by omega, hc.2.2, fun i => ?_⟩, by omega, by omega, by omega, by omega, by omega⟩
    show ((s.sts.set e.at_.toNat (e.th, s.ver e.at_)).getD i (-1, 0)).1 = _
    by_cases hi : e.at_.toNat = i
    · subst hi; rw [getD_set_eq _ _ _ _ h2, if_pos rfl]
    · rw [getD_set_ne _ _ _ _ _ hi, if_neg (Ne.symm hi)]; rfl
  rw [if_neg k4] at hd
  by_cases k5 : e.kind = 5
  · rw [if_pos k5] at hd
    unfold bumpS at hd; split at hd
    case isFalse => cases hd
    cases hd
    exact ⟨by omega, by omega, by omega, by omega, by omega, fun _ _ _ _ => rfl⟩
  rw [if_neg k5] at hd
  by_cases k6 : e.kind = 6
  · rw [if_pos k6] at hd
    unfold checkS at hd; split at hd
    case isFalse => cases hd
    cases hd
    exact ⟨by omega, by omega, by omega, by omega, by omega, fun _ _ _ _ => rfl⟩
  rw [if_neg k6] at hd
  by_cases k7 : e.kind = 7
  · rw [if_pos k7] at hd
    unfold commitS at hd; split at hd
    · cases hd
      exact ⟨by omega, by omega, by omega, by omega, by omega, fun _ _ _ _ => rfl⟩
    split at hd
    · cases hd
      exact ⟨by omega, by omega, by omega, by omega, by omega, fun _ _ _ _ => rfl⟩
    cases hd
  rw [if_neg k7] at hd
  by_cases k8 : e.kind = 8
  · rw [if_pos k8] at hd
    unfold storeS at hd; split at hd
    case isFalse => cases hd
    rename_i hc
    cases hd
    exact ⟨by omega, by omega, by omega, by omega, fun _ => ⟨by omega, by rw [hthe]; exact (ht.own _ hc.2.2).2⟩, fun _ _ _ _ => rfl⟩
  rw [if_neg k8] at hd
  by_cases k9 : e.kind = 9
  · rw [if_pos k9] at hd
    unfold freedS at hd; split at hd
    case isFalse => cases hd
    rename_i hc
    cases hd
    obtain ⟨h1, h2⟩ := hatS (by omega) (by omega)
    have hbit : t.owned.testBit e.at_.toNat = true := by
      have : e.at_.toNat = leastb t.owned := by omega
      rw [this]; exact leastb_some (by omega)
    refine ⟨by omega, fun _ => ⟨by omega, by rw [hthe]; exact (ht.own _ hbit).2, fun i => ?_⟩, by omega, by omega, by omega, by omega⟩
    show ((s.sts.set e.at_.toNat (-1, t.wv)).getD i (-1, 0)).1 = _
    by_cases hi : e.at_.toNat = i
    · subst hi; rw [getD_set_eq _ _ _ _ h2, if_pos rfl]
    · rw [getD_set_ne _ _ _ _ _ hi, if_neg (Ne.symm hi)]; rfl
  rw [if_neg k9] at hd
  by_cases k10 : e.kind = 10
  · rw [if_pos k10] at hd
    unfold abortS at hd; split at hd
    case isFalse => cases hd
    cases hd
    exact ⟨by omega, by omega, by omega, by omega, by omega, fun _ _ _ _ => rfl⟩
  rw [if_neg k10] at hd
  by_cases k11 : e.kind = 11
  · rw [if_pos k11] at hd
    unfold undoS at hd; split at hd
    case isFalse => cases hd
    rename_i hc
    cases hd
    obtain ⟨h1, h2⟩ := hatS (by omega) (by omega)
    have hbit : t.owned.testBit e.at_.toNat = true := by
      have : e.at_.toNat = leastb t.owned := by omega
      rw [this]; exact leastb_some (by omega)
    refine ⟨by omega, fun _ => ⟨by omega, by rw [hthe]; exact (ht.own _ hbit).2, fun i => ?_⟩, by omega, by omega, by omega, by omega⟩
    show ((s.sts.set e.at_.toNat (-1, s.ver e.at_)).getD i (-1, 0)).1 = _
    by_cases hi : e.at_.toNat = i
    · subst hi; rw [getD_set_eq _ _ _ _ h2, if_pos rfl]
    · rw [getD_set_ne _ _ _ _ _ hi, if_neg (Ne.symm hi)]; rfl
  rw [if_neg k11] at hd
  by_cases k12 : e.kind = 12
  · rw [if_pos k12] at hd
    unfold waitS at hd; split at hd
    case isFalse => cases hd
    cases hd
    exact ⟨by omega, by omega, by omega, by omega, by omega, fun _ _ _ _ => rfl⟩
  rw [if_neg k12] at hd
  unfold wakeS at hd; split at hd
  case isFalse => cases hd
  cases hd
  exact ⟨by omega, by omega, by omega, by omega, by omega, fun _ _ _ _ => rfl⟩

/-- The versions as the law keeps them: of each thread its last Bump, of each stripe what was freed there. -/
structure VerL (s : Sh) (wv ver : Nat → Int) : Prop where
  w : ∀ i, i < s.ths.length → (s.ths.getD i Th.zero).at_ = 4 ∨ (s.ths.getD i Th.zero).at_ = 5 ∨ (s.ths.getD i Th.zero).at_ = 6 → wv i = (s.ths.getD i Th.zero).wv
  v : ∀ i, i < s.sts.length → ver i ≤ stV s i
  c : ∀ i, ver i ≤ s.clock
  o : ∀ i, i < s.ths.length → (s.ths.getD i Th.zero).at_ = 4 ∨ (s.ths.getD i Th.zero).at_ = 5 ∨ (s.ths.getD i Th.zero).at_ = 6 → ∀ b, (s.ths.getD i Th.zero).owned.testBit b = true → ver b < wv i
/-- Nothing but the thread's record turned, and it is in none of the three states, or was there ahead. -/
theorem VerL.keep {s s' : Sh} {wv ver : Nat → Int} (h : VerL s wv ver) {th : Nat} {t' : Th} (hths : s'.ths = s.ths.set th t') (hsts : s'.sts = s.sts) (hclk : s.clock ≤ s'.clock)
    (hlt : th < s.ths.length) (ht : (t'.at_ = 4 ∨ t'.at_ = 5 ∨ t'.at_ = 6) → ((s.ths.getD th Th.zero).at_ = 4 ∨ (s.ths.getD th Th.zero).at_ = 5 ∨ (s.ths.getD th Th.zero).at_ = 6) ∧ t'.wv = (s.ths.getD th Th.zero).wv ∧ t'.owned = (s.ths.getD th Th.zero).owned) : VerL s' wv ver := by
  have hlen : s'.ths.length = s.ths.length := by rw [hths, List.length_set]
  refine ⟨fun i hi hx => ?_, fun i hi => ?_, fun i => ?_, fun i hi hx b hb => ?_⟩
  · rw [hlen] at hi
    rw [hths] at hx ⊢
    by_cases he : th = i
    · subst he
      rw [getD_set_eq _ _ _ _ hlt] at hx ⊢
      obtain ⟨a, b, c⟩ := ht hx
      rw [h.w th hi a, b]
    · rw [getD_set_ne _ _ _ _ _ he] at hx ⊢; exact h.w i hi hx
  · unfold stV; rw [hsts] at hi ⊢; exact h.v i hi
  · have := h.c i; omega
  · rw [hlen] at hi
    rw [hths] at hx hb
    by_cases he : th = i
    · subst he
      rw [getD_set_eq _ _ _ _ hlt] at hx hb
      obtain ⟨a, b', c⟩ := ht hx
      rw [c] at hb
      exact h.o th hi a b hb
    · rw [getD_set_ne _ _ _ _ _ he] at hx hb; exact h.o i hi hx b hb
end Go.Proofs.YtcddlnmcjmhbcaaDoor
/-
  The document's checker (seesawref13) as data: what it tells anew from the events ahead, the newest first. Nothing of the program.
-/
namespace Go.Proofs.YtcddlnmcjmhbcaaDoor
set_option linter.unusedVariables false
set_option linter.unusedSimpArgs false
set_option linter.unusedVariables false
def ownV : List Ev → Int → Int
  | [], _ => -1
  | e :: r, s => if e.at_ = s then (if e.kind = 4 then e.th else if e.kind = 9 ∨ e.kind = 11 then -1 else ownV r s) else ownV r s
def bumpV : List Ev → Int → Int
  | [], _ => 0
  | e :: r, th => if e.kind = 5 ∧ e.th = th then e.v else bumpV r th
def verV : List Ev → Int → Int
  | [], _ => 0
  | e :: r, s => if e.at_ = s ∧ e.kind = 2 then e.v else if e.at_ = s ∧ e.kind = 9 then bumpV r e.th else verV r s
def clkV : List Ev → Int
  | [] => 0
  | e :: r => if e.kind = 1 ∨ e.kind = 5 then e.v else clkV r
structure AtR where
  L : List Ev
  rv : Int
  wv : Int
  read : List Int
  locked : List Int
  freed : List Int
  checked : Nat
  stored : List Int
  why : Int
  last : Int
def AtR.zero : AtR := ⟨[], 0, 0, [], [], [], 0, [], 0, 0⟩
/-- A number into a list that rises, once. -/
def putL : List Int → Int → List Int
  | [], n => [n]
  | x :: l, n => if x < n then x :: putL l n else if x = n then x :: l else n :: x :: l
def stepB (S : Int) (b : AtR) (e : Ev) : AtR :=
  { L := b.L ++ [e], rv := b.rv, wv := if e.kind = 5 then e.v else b.wv, read := if e.kind = 3 then putL b.read (e.at_ % S) else b.read, locked := if e.kind = 4 then b.locked ++ [e.at_] else b.locked,
    freed := if e.kind = 9 ∨ e.kind = 11 then b.freed ++ [e.at_] else b.freed, checked := if e.kind = 6 then b.checked + 1 else b.checked, stored := if e.kind = 8 then b.stored ++ [e.at_] else b.stored, why := if e.kind = 10 then e.why else b.why, last := e.kind }
def begA (a : AtR) (e : Ev) : AtR := if e.kind = 1 then ⟨[], e.v, 0, [], [], [], 0, [], 0, 0⟩ else a
def stepA (S : Int) (a : AtR) (e : Ev) : AtR := stepB S (begA a e) e
def mineV (S th : Int) : List Ev → AtR
  | [] => AtR.zero
  | e :: r => if e.th = th then stepA S (mineV S th r) e else mineV S th r
def overA (a : AtR) : Bool :=
  if a.last = 0 ∨ a.last = 13 then true else if a.last = 7 ∨ a.last = 10 then decide (a.locked.length = 0) else if a.last = 9 ∨ a.last = 11 then decide (a.freed.length = a.locked.length) else false
def comV (S th : Int) : List Ev → Int
  | [] => 0
  | e :: r => comV S th r + if e.th = th ∧ (e.kind = 7 ∨ e.kind = 9) ∧ overA (mineV S th (e :: r)) = true then 1 else 0
def leftA (a : AtR) : List Int := if a.wv = a.rv + 1 then [] else a.read.drop a.checked
def lastI (l : List Int) : Int := l.getLast?.getD (-1)
def evZ : Ev := ⟨0, 0, 0, 0, 0, 0, 0⟩
def lookA (a : AtR) : Ev := a.L.getLast?.getD evZ
/-- The stripes of what was stored. -/
def stpR (S : Int) : List Int → List Int → List Int
  | acc, [] => acc
  | acc, x :: l => stpR S (putL acc (x % S)) l
def freshR (r : List Ev) (rv : Int) (s : Int) : Bool := decide (ownV r s < 0) && decide (rv < verV r s)
def readsA (a : AtR) : Bool := decide (a.last = 1 ∨ a.last = 3)
def checksA (a : AtR) : Bool := decide (a.last = 5 ∨ a.last = 6)
def otherR (r : List Ev) (e : Ev) : Bool := decide (0 ≤ ownV r e.at_) && !decide (ownV r e.at_ = e.th)
def headB (l : List Int) (x : Int) : Bool := decide (l.head? = some x)
def abortR (r : List Ev) (e : Ev) (a : AtR) : Bool :=
  if e.why = 1 then readsA a && otherR r e
  else if e.why = 2 then readsA a && decide (ownV r e.at_ < 0) && decide (a.rv < verV r e.at_)
  else if e.why = 3 then decide (a.last = 2) && decide ((lookA a).at_ = e.at_) && (decide (0 ≤ ownV r e.at_) || !decide (verV r e.at_ = (lookA a).v))
  else if e.why = 4 then (readsA a || decide (a.last = 4)) && decide (lastI a.locked < e.at_) && otherR r e
  else if e.why = 5 then checksA a && headB (leftA a) e.at_ && (otherR r e || decide (a.rv < verV r e.at_))
  else decide (a.last = 4)
def mayK (S : Int) (r : List Ev) (e : Ev) (a : AtR) : Bool :=
  if e.kind = 2 then readsA a && decide (ownV r e.at_ < 0) && decide (verV r e.at_ ≤ e.v) && decide (e.v ≤ a.rv)
  else if e.kind = 3 then decide (a.last = 2) && decide ((lookA a).at_ = e.at_ % S) && decide (ownV r (e.at_ % S) < 0) && decide (verV r (e.at_ % S) = (lookA a).v)
  else if e.kind = 4 then (readsA a || decide (a.last = 4)) && decide (lastI a.locked < e.at_) && decide (ownV r e.at_ < 0)
  else if e.kind = 5 then decide (a.last = 4) && decide (clkV r < e.v)
  else if e.kind = 6 then checksA a && headB (leftA a) e.at_ && !otherR r e && decide (verV r e.at_ ≤ a.rv)
  else if e.kind = 7 then (if e.v = 0 then readsA a else checksA a && decide (leftA a = []) && decide (e.v = a.wv))
  else if e.kind = 8 then decide (a.last = 7 ∨ a.last = 8) && decide (lastI a.stored < e.at_) && decide (ownV r (e.at_ % S) = e.th)
  else if e.kind = 9 then (decide (a.last = 8) && decide ((stpR S [] a.stored).length = a.locked.length) || decide (a.last = 9)) && headB (a.locked.drop a.freed.length) e.at_
  else if e.kind = 11 then decide (a.last = 10 ∨ a.last = 11) && headB (a.locked.drop a.freed.length) e.at_
  else if e.kind = 12 then readsA a
  else if e.kind = 13 then decide (a.last = 12) && a.read.any (freshR r a.rv)
  else abortR r e a
def mayQ (S : Int) (r : List Ev) (e : Ev) (a : AtR) : Bool :=
  if e.kind = 1 then overA a && !decide (a.why = 6) && decide (e.tx = comV S e.th r) && decide (clkV r ≤ e.v)
  else if overA a = true then false else mayK S r e a
def mayR (T V S : Int) (r : List Ev) (e : Ev) : Bool := mayE e T V S && mayQ S r e (mineV S e.th r)
/-! ## Sets of stripes, as bits and as lists that rise -/
structure BitsL (m : Nat) (l : List Int) : Prop where
  lt : m < 4294967296
  bit : ∀ b : Nat, m.testBit b = true ↔ (b : Int) ∈ l
  up : l.Pairwise (· < ·)
  rng : ∀ x ∈ l, 0 ≤ x ∧ x < 32
theorem BitsL.nil : BitsL 0 [] := ⟨by omega, by simp, .nil, by simp⟩
theorem mem_putL (l : List Int) (n y : Int) : y ∈ putL l n ↔ y = n ∨ y ∈ l := by
  induction l with
  | nil => simp [putL]
  | cons x l ih =>
    unfold putL
    split
    · simp only [List.mem_cons, ih]; constructor <;> (intro h; rcases h with h | h | h <;> simp [h])
    · split
      · rename_i h; subst h; simp only [List.mem_cons]
        constructor
        · intro h; exact Or.inr h
        · rintro (h | h)
          · exact Or.inl h
          · exact h
      · simp only [List.mem_cons]
theorem putL_up {l : List Int} (n : Int) (h : l.Pairwise (· < ·)) : (putL l n).Pairwise (· < ·) := by
  induction l with
  | nil => simp [putL]
  | cons x l ih =>
    rw [List.pairwise_cons] at h
    unfold putL
    split
    · rename_i hx
      rw [List.pairwise_cons]
      refine ⟨fun y hy => ?_, ih h.2⟩
      rcases (mem_putL l n y).1 hy with rfl | hy
      · exact hx
      · exact h.1 y hy
    · split
      · rw [List.pairwise_cons]; exact h
      · rw [List.pairwise_cons, List.pairwise_cons]
        refine ⟨fun y hy => ?_, h⟩
        rcases List.mem_cons.1 hy with rfl | hy
        · omega
        · have := h.1 y hy; omega
theorem BitsL.put {m : Nat} {l : List Int} (h : BitsL m l) {s : Int} (hs : 0 ≤ s ∧ s < 32) : BitsL (setb m s.toNat) (putL l s) := by
  refine ⟨setb_lt h.lt (by omega), fun b => ?_, putL_up s h.up, fun x hx => ?_⟩
  · rw [testBit_setb, mem_putL, Bool.or_eq_true, decide_eq_true_eq, h.bit b]
    constructor
    · rintro (h1 | h1)
      · exact Or.inr h1
      · exact Or.inl (by omega)
    · rintro (h1 | h1)
      · exact Or.inr (by omega)
      · exact Or.inl h1
  · rcases (mem_putL l s x).1 hx with rfl | hx
    · exact hs
    · exact h.rng x hx
theorem lastI_snoc (l : List Int) (x : Int) : lastI (l ++ [x]) = x := by simp [lastI]
theorem le_lastI : ∀ {l : List Int}, l.Pairwise (· < ·) → ∀ x ∈ l, x ≤ lastI l := by
  intro l h x hx
  rcases List.eq_nil_or_concat l with rfl | ⟨k, y, rfl⟩
  · cases hx
  · rw [List.concat_eq_append] at h hx ⊢
    rw [lastI_snoc]
    rcases List.mem_append.1 hx with hx | hx
    · have := (List.pairwise_append.1 h).2.2 x hx y (List.mem_singleton.2 rfl); omega
    · rw [List.mem_singleton.1 hx]; omega
theorem BitsL.snoc {m : Nat} {l : List Int} (h : BitsL m l) {s : Int} (hs : 0 ≤ s ∧ s < 32) (hl : lastI l < s) : BitsL (setb m s.toNat) (l ++ [s]) := by
  refine ⟨setb_lt h.lt (by omega), fun b => ?_, ?_, fun x hx => ?_⟩
  · rw [testBit_setb, List.mem_append, List.mem_singleton, Bool.or_eq_true, decide_eq_true_eq, h.bit b]
    constructor
    · rintro (h1 | h1)
      · exact Or.inl h1
      · exact Or.inr (by omega)
    · rintro (h1 | h1)
      · exact Or.inl h1
      · exact Or.inr (by omega)
  · rw [List.pairwise_append]
    refine ⟨h.up, by simp, fun x hx y hy => ?_⟩
    rw [List.mem_singleton.1 hy]
    have := le_lastI h.up x hx; omega
  · rcases List.mem_append.1 hx with hx | hx
    · exact h.rng x hx
    · rw [List.mem_singleton.1 hx]; exact hs
theorem BitsL.zero_iff {m : Nat} {l : List Int} (h : BitsL m l) : m = 0 ↔ l = [] := by
  constructor
  · intro h0
    cases l with
    | nil => rfl
    | cons x l =>
      have h1 := h.rng x (List.mem_cons_self ..)
      have h2 := (h.bit x.toNat).2 (by rw [Int.toNat_of_nonneg h1.1]; exact List.mem_cons_self ..)
      rw [h0, Nat.zero_testBit] at h2; cases h2
  · intro h0
    refine zero_of_testBit h.lt fun i hi => ?_
    cases hb : m.testBit i with
    | false => rfl
    | true => rw [h0] at h; have := (h.bit i).1 hb; cases this
/-- The least one of a set is the first one of its list. -/
theorem BitsL.head {m : Nat} {l : List Int} (h : BitsL m l) {x : Int} (hx : 0 ≤ x ∧ x < 32) : x = leastb m ↔ l.head? = some x := by
  cases l with
  | nil =>
    have h0 := h.zero_iff.2 rfl
    subst h0
    have : leastb 0 = 32 := by decide +kernel
    rw [this]; simp; omega
  | cons y l =>
    have h1 := h.rng y (List.mem_cons_self ..)
    have h2 := (h.bit y.toNat).2 (by rw [Int.toNat_of_nonneg h1.1]; exact List.mem_cons_self ..)
    have h3 := leastb_min h2 (by omega)
    have h4 := (h.bit _).1 (leastb_some (m := m) (by omega))
    have h5 : y ≤ (leastb m : Int) := by
      rcases List.mem_cons.1 h4 with h4 | h4
      · omega
      · have := (List.pairwise_cons.1 h.up).1 _ h4; omega
    have : (leastb m : Int) = y := by omega
    rw [this, List.head?_cons]
    constructor
    · intro h0; rw [h0]
    · intro h0; exact (Option.some.inj h0).symm
theorem BitsL.tail {m : Nat} {x : Int} {l : List Int} (h : BitsL m (x :: l)) : BitsL (clrb m x.toNat) l := by
  have hu := List.pairwise_cons.1 h.up
  have hx := h.rng x (List.mem_cons_self ..)
  refine ⟨clrb_lt h.lt, fun b => ?_, hu.2, fun y hy => h.rng y (List.mem_cons_of_mem _ hy)⟩
  rw [testBit_clrb, Bool.and_eq_true, h.bit b, List.mem_cons, Bool.not_eq_true', decide_eq_false_iff_not]
  constructor
  · rintro ⟨h1 | h1, h2⟩
    · omega
    · exact h1
  · intro h1
    exact ⟨Or.inr h1, fun h2 => by have := hu.1 _ h1; omega⟩
theorem head_drop {l : List Int} {k : Nat} {x : Int} (h : (l.drop k).head? = some x) : l.drop k = x :: l.drop (k + 1) := by
  cases hd : l.drop k with
  | nil => rw [hd] at h; cases h
  | cons y r =>
    rw [hd] at h
    have : y = x := Option.some.inj h
    subst this
    rw [← List.drop_drop, hd]; rfl
/-- Of two lists that rise, one within the other, and as long: they are one set. -/
theorem up_len : ∀ (B A : List Int), A.Pairwise (· < ·) → B.Pairwise (· < ·) → (∀ x ∈ A, x ∈ B) → A.length ≤ B.length ∧ (A.length = B.length → ∀ x ∈ B, x ∈ A) := by
  intro B
  induction B with
  | nil =>
    intro A _ _ h
    cases A with
    | nil => simp
    | cons x A => have := h x (List.mem_cons_self ..); cases this
  | cons b B ih =>
    intro A hA hB h
    rw [List.pairwise_cons] at hB
    cases A with
    | nil => simp
    | cons a A =>
      rw [List.pairwise_cons] at hA
      have hab : b ≤ a := by
        rcases List.mem_cons.1 (h a (List.mem_cons_self ..)) with h1 | h1
        · omega
        · have := hB.1 a h1; omega
      by_cases he : a = b
      · subst he
        obtain ⟨h1, h2⟩ := ih A hA.2 hB.2 (fun x hx => by
          rcases List.mem_cons.1 (h x (List.mem_cons_of_mem _ hx)) with h3 | h3
          · have := hA.1 x hx; omega
          · exact h3)
        refine ⟨by simp; omega, fun h3 x hx => ?_⟩
        rcases List.mem_cons.1 hx with rfl | hx
        · exact List.mem_cons_self ..
        · exact List.mem_cons_of_mem _ (h2 (by simpa using h3) x hx)
      · obtain ⟨h1, h2⟩ := ih (a :: A) (List.pairwise_cons.2 hA) hB.2 (fun x hx => by
          rcases List.mem_cons.1 (h x hx) with h3 | h3
          · rcases List.mem_cons.1 hx with h4 | h4
            · omega
            · have := hA.1 x h4; omega
          · exact h3)
        refine ⟨by simp only [List.length_cons] at h1 ⊢; omega, fun h3 => ?_⟩
        simp only [List.length_cons] at h1 h3; omega
theorem stpR_mem (S : Int) : ∀ (l acc : List Int) (y : Int), y ∈ stpR S acc l ↔ y ∈ acc ∨ ∃ x ∈ l, x % S = y := by
  intro l
  induction l with
  | nil => intro acc y; simp [stpR]
  | cons x l ih =>
    intro acc y
    unfold stpR
    rw [ih, mem_putL]
    simp only [List.mem_cons, exists_eq_or_imp]
    constructor
    · rintro ((h | h) | h)
      · exact Or.inr (Or.inl h.symm)
      · exact Or.inl h
      · exact Or.inr (Or.inr h)
    · rintro (h | h | h)
      · exact Or.inl (Or.inr h)
      · exact Or.inl (Or.inl h.symm)
      · exact Or.inr h
theorem stpR_up (S : Int) : ∀ (l acc : List Int), acc.Pairwise (· < ·) → (stpR S acc l).Pairwise (· < ·) := by
  intro l
  induction l with
  | nil => intro acc h; exact h
  | cons x l ih => intro acc h; exact ih _ (putL_up _ h)
end Go.Proofs.YtcddlnmcjmhbcaaDoor
/-
  The document's checker answers as the machine: what it tells anew is what the machine keeps. Nothing of the program.
-/
namespace Go.Proofs.YtcddlnmcjmhbcaaDoor
set_option linter.unusedVariables false
set_option linter.unusedSimpArgs false
set_option linter.unusedVariables false
/-- A thread as the machine keeps it, and as the document tells it anew. -/
structure ThR (S : Int) (t : Th) (a : AtR) : Prop where
  over : overA a = decide (t.at_ = 0 ∨ t.at_ = 9)
  why9 : t.at_ = 9 → a.why = 6
  why0 : t.at_ = 0 → a.why ≠ 6
  l1 : t.at_ = 1 → a.last = 1 ∨ a.last = 3
  l2 : t.at_ = 2 → a.last = 2
  l2a : t.at_ = 2 → (lookA a).at_ = t.stripe ∧ (lookA a).v = t.v
  l3 : t.at_ = 3 → a.last = 4
  l4 : t.at_ = 4 → a.last = 5 ∨ a.last = 6
  l5 : t.at_ = 5 → a.last = 7 ∨ a.last = 8
  l6 : t.at_ = 6 → a.last = 9
  l7 : t.at_ = 7 → a.last = 10 ∨ a.last = 11
  l8 : t.at_ = 8 → a.last = 12
  rv : 1 ≤ t.at_ → t.at_ ≤ 8 → a.rv = t.rv
  ne : 1 ≤ t.at_ → t.at_ ≤ 8 → a.L ≠ []
  ob : 1 ≤ t.at_ → t.at_ ≤ 8 → BitsL t.owned (a.locked.drop a.freed.length)
  rb : 1 ≤ t.at_ → t.at_ ≤ 8 → BitsL t.read a.read
  rn : 1 ≤ t.at_ → t.at_ ≤ 8 → ∀ x ∈ a.read, x < S
  cl : 1 ≤ t.at_ → t.at_ ≤ 8 → a.checked ≤ a.read.length
  cb : t.at_ = 4 → BitsL t.check (leftA a)
  c0 : 1 ≤ t.at_ → t.at_ ≤ 3 → t.check = 0 ∧ a.checked = 0
  f0 : 1 ≤ t.at_ → t.at_ ≤ 5 → a.freed = []
  lk : 1 ≤ t.at_ → t.at_ ≤ 3 → t.locked = lastI a.locked
  s0 : 1 ≤ t.at_ → t.at_ ≤ 4 → a.stored = [] ∧ t.stored = 0 ∧ t.var = -1
  s5 : t.at_ = 5 → (∀ b : Nat, t.stored.testBit b = true ↔ ∃ x ∈ a.stored, x % S = (b : Int)) ∧ t.var = lastI a.stored ∧ (∀ x ∈ a.stored, x % S ∈ a.locked) ∧ (a.last = 7 → a.stored = [])
  wv : 4 ≤ t.at_ → t.at_ ≤ 6 → a.wv = t.wv
  wy : 1 ≤ t.at_ → t.at_ ≤ 8 → t.at_ ≠ 7 → a.why = 0
  w7 : t.at_ = 7 → (a.why = 6 ↔ t.full = true)
theorem ThR.idle {S : Int} {t : Th} {a : AtR} (h : t.at_ = 0 ∨ t.at_ = 9) (ho : overA a = true) (h9 : t.at_ = 9 → a.why = 6) (h0 : t.at_ = 0 → a.why ≠ 6) : ThR S t a := by
  refine ⟨by rw [ho, decide_eq_true h], h9, h0, ?_, ?_, ?_, ?_, ?_, ?_, ?_, ?_, ?_, ?_, ?_, ?_, ?_, ?_, ?_, ?_, ?_, ?_, ?_, ?_, ?_, ?_, ?_, ?_⟩
  all_goals (intros; exfalso; omega)
structure RefI (s : Sh) (l : List Ev) : Prop where
  clk : s.clock = clkV l
  own : ∀ i, i < s.sts.length → stO s i = ownV l i
  ver : ∀ i, i < s.sts.length → stV s i = verV l i
  ow : ∀ i, i < s.sts.length → ∀ j : Nat, stO s i = (j : Int) → (s.ths.getD j Th.zero).owned.testBit i = true
  th : ∀ i, i < s.ths.length → ThR s.n (s.ths.getD i Th.zero) (mineV s.n i l) ∧ (s.ths.getD i Th.zero).commits = comV s.n i l ∧ (4 ≤ (s.ths.getD i Th.zero).at_ → (s.ths.getD i Th.zero).at_ ≤ 6 → bumpV l i = (s.ths.getD i Th.zero).wv)
theorem RefI.new (T V S : Int) : RefI (newS T V S) [] := by
  refine ⟨rfl, fun i hi => ?_, fun i hi => ?_, fun i hi j h => ?_, fun i hi => ?_⟩
  · simp [newS] at hi; simp [stO, newS, List.getD, hi, ownV]
  · simp [newS] at hi; simp [stV, newS, List.getD, hi, verV]
  · simp [newS] at hi; simp [stO, newS, List.getD, hi] at h
  · have e : (newS T V S).ths.getD i Th.zero = Th.zero := by
      simp only [newS, List.getD_eq_getElem?_getD, List.getElem?_replicate]
      split <;> rfl
    rw [e]
    exact ⟨ThR.idle (Or.inl rfl) rfl (by simp [Th.zero]) (by simp [mineV, AtR.zero]), rfl, by simp [Th.zero]⟩
/-- Without a panic: what the document's checker may look at. -/
def GoodA (a : AtR) : Prop := overA a = false → a.L ≠ [] ∧ a.checked ≤ a.read.length ∧ (a.last = 8 ∨ a.last = 9 ∨ a.last = 10 ∨ a.last = 11 → a.freed.length < a.locked.length)
theorem BitsL.ne {m : Nat} {l : List Int} (h : BitsL m l) : m ≠ 0 ↔ l ≠ [] := not_congr h.zero_iff
theorem good_of {s : Sh} {l : List Ev} (hw : Wf s) (hj : RefI s l) {i : Nat} (hi : i < s.ths.length) : GoodA (mineV s.n i l) := by
  intro ho
  have ht := hw.th i hi
  have hr := (hj.th i hi).1
  generalize s.ths.getD i Th.zero = t at *
  generalize mineV s.n i l = a at *
  have ov := hr.over
  rw [ho] at ov
  have ov := of_decide_eq_false ov.symm
  have h0 := ht.at0
  refine ⟨hr.ne (by omega) (by omega), hr.cl (by omega) (by omega), fun h => ?_⟩
  have h1 := hr.l1; have h2 := hr.l2; have h3 := hr.l3; have h4 := hr.l4; have h8 := hr.l8
  have hb := (hr.ob (by omega) (by omega)).ne.1 (ht.busy (by omega))
  rcases Nat.lt_or_ge a.freed.length a.locked.length with h5 | h5
  · exact h5
  · exact absurd (List.drop_eq_nil_of_le h5) hb
theorem isSome_ite {α : Type} (c : Prop) [Decidable c] (x : α) : (if c then some x else none).isSome = decide c := by split <;> simp_all
set_option maxHeartbeats 4000000 in
/-- May an event come: the document's answer is the machine's. -/
theorem may_is {s : Sh} {l : List Ev} {e : Ev} (hw : Wf s) (hj : RefI s l) : (stepS s e).isSome = mayR s.ths.length s.vars s.n l e := by
  unfold stepS mayR
  by_cases hm : mayE e s.ths.length s.vars s.n = true
  case neg => rw [if_neg hm]; simp [hm]
  rw [if_pos hm, hm, Bool.true_and]
  obtain ⟨hk, hth, htx, hv, hat, hS⟩ := mayE_of hm
  obtain ⟨th, hthe⟩ := Int.eq_ofNat_of_zero_le hth.1
  have hlt : th < s.ths.length := by omega
  have hT : s.th e.th = s.ths.getD th Th.zero := by unfold Sh.th; rw [show e.th.toNat = th by omega]
  rw [hT, hthe]
  have ht := hw.th th hlt
  obtain ⟨hr, hcm, hbv⟩ := hj.th th hlt
  have hclk := hj.clk
  have hsn : s.n = s.sts.length := rfl
  have hsz := hw.size
  have OW : ∀ q : Int, 0 ≤ q → q < s.n → s.own q = ownV l q ∧ s.ver q = verV l q ∧ -1 ≤ s.own q := fun q h0 h1 => by
    have h2 : q.toNat < s.sts.length := by omega
    have h3 := hj.own q.toNat h2
    have h4 := hj.ver q.toNat h2
    rw [Int.toNat_of_nonneg h0] at h3 h4
    exact ⟨h3, h4, (hw.stb q.toNat h2).1.1⟩
  have hmod := mod_in (a := e.at_) hS.1
  have hatS : e.kind ≠ 3 → e.kind ≠ 8 → e.at_ < s.n := fun h3 h8 => by have := places_S (e := e) (V := s.vars) (S := s.n) h3 h8 hS.1; omega
  have hat32 : e.at_ < 32 := by have := places_V (e := e) hS.1 hS.2.1; omega
  generalize hTt : s.ths.getD th Th.zero = t at *
  have hcom : comV s.n (↑th) l = t.commits := hcm.symm
  unfold mayQ
  rw [hthe, hcom]
  generalize mineV s.n (↑th) l = a at *
  have h0 := ht.at0
  unfold doesS
  by_cases k1 : e.kind = 1
  · rw [if_pos k1, if_pos k1]
    unfold beginS
    rw [isSome_ite, hr.over, Bool.eq_iff_iff]
    simp only [Bool.and_eq_true, Bool.not_eq_true', decide_eq_true_eq, decide_eq_false_iff_not, ← hclk]
    have h9 := hr.why9; have h0' := hr.why0
    constructor
    · intro h; exact ⟨⟨⟨Or.inl h.1, h0' h.1⟩, h.2.1⟩, h.2.2⟩
    · rintro ⟨⟨⟨h1 | h1, h2⟩, h3⟩, h4⟩
      · exact ⟨h1, h3, h4⟩
      · exact absurd (h9 h1) h2
  rw [if_neg k1, if_neg k1]
  rw [hr.over]
  by_cases ho : t.at_ = 0 ∨ t.at_ = 9
  · rw [decide_eq_true ho, if_pos rfl]
    have n1 : ¬ t.at_ = 1 := by omega
    have n2 : ¬ t.at_ = 2 := by omega
    have n3 : ¬ t.at_ = 3 := by omega
    have n4 : ¬ t.at_ = 4 := by omega
    have n5 : ¬ t.at_ = 5 := by omega
    have n6 : ¬ t.at_ = 6 := by omega
    have n7 : ¬ t.at_ = 7 := by omega
    have n8 : ¬ t.at_ = 8 := by omega
    unfold lookS loadS lockS bumpS checkS commitS storeS freedS abortS undoS waitS wakeS fitsS
    simp [n1, n2, n3, n4, n5, n6, n7, n8]
    repeat' split
    all_goals rfl
  rw [decide_eq_false ho, if_neg Bool.false_ne_true]
  have l1 := hr.l1; have l2 := hr.l2; have l3 := hr.l3; have l4 := hr.l4; have l5 := hr.l5; have l6 := hr.l6; have l7 := hr.l7; have l8 := hr.l8
  have R1 : readsA a = decide (t.at_ = 1) := by unfold readsA; exact decide_eq_decide.2 (by omega)
  have R2 : decide (a.last = 2) = decide (t.at_ = 2) := decide_eq_decide.2 (by omega)
  have R3 : decide (a.last = 4) = decide (t.at_ = 3) := decide_eq_decide.2 (by omega)
  have R4 : checksA a = decide (t.at_ = 4) := by unfold checksA; exact decide_eq_decide.2 (by omega)
  have R5 : decide (a.last = 7 ∨ a.last = 8) = decide (t.at_ = 5) := decide_eq_decide.2 (by omega)
  have R6 : decide (a.last = 9) = decide (t.at_ = 6) := decide_eq_decide.2 (by omega)
  have R7 : decide (a.last = 10 ∨ a.last = 11) = decide (t.at_ = 7) := decide_eq_decide.2 (by omega)
  have R8 : decide (a.last = 12) = decide (t.at_ = 8) := decide_eq_decide.2 (by omega)
  have hrv := hr.rv (by omega) (by omega)
  have hob := hr.ob (by omega) (by omega)
  have hoth : e.kind ≠ 3 → e.kind ≠ 8 → s.oth e.at_ e.th = otherR l e := fun h3 h8 => by
    obtain ⟨h1, h2, h4⟩ := OW e.at_ hat.1 (hatS h3 h8)
    unfold Sh.oth otherR
    rw [← h1, Bool.eq_iff_iff]
    simp only [Bool.and_eq_true, Bool.not_eq_true', decide_eq_true_eq, decide_eq_false_iff_not]
    omega
  unfold mayK
  by_cases k2 : e.kind = 2
  · rw [if_pos k2, if_pos k2]
    obtain ⟨h1, h2, h3⟩ := OW e.at_ hat.1 (hatS (by omega) (by omega))
    unfold lookS
    rw [isSome_ite, R1, ← h1, ← h2, hrv, Bool.eq_iff_iff]
    simp only [Bool.and_eq_true, decide_eq_true_eq]
    omega
  rw [if_neg k2, if_neg k2]
  by_cases k3 : e.kind = 3
  · rw [if_pos k3, if_pos k3]
    obtain ⟨h1, h2, h3⟩ := OW (e.at_ % s.n) hmod.1 hmod.2
    unfold loadS
    rw [isSome_ite, R2, ← h1, ← h2, Bool.eq_iff_iff]
    simp only [Bool.and_eq_true, decide_eq_true_eq]
    constructor
    · rintro ⟨g1, g2, g3, g4⟩
      obtain ⟨q1, q2⟩ := hr.l2a g1
      rw [q1, q2, g2]
      exact ⟨⟨⟨g1, rfl⟩, by omega⟩, g4⟩
    · rintro ⟨⟨⟨g1, g2⟩, g3⟩, g4⟩
      obtain ⟨q1, q2⟩ := hr.l2a g1
      rw [q1] at g2; rw [q2] at g4
      rw [g2]
      exact ⟨g1, rfl, by omega, g4⟩
  rw [if_neg k3, if_neg k3]
  by_cases k4 : e.kind = 4
  · rw [if_pos k4, if_pos k4]
    obtain ⟨h1, h2, h3⟩ := OW e.at_ hat.1 (hatS (by omega) (by omega))
    have hl := hr.lk
    unfold lockS
    rw [isSome_ite, R1, R3, ← h1, Bool.eq_iff_iff]
    simp only [Bool.and_eq_true, Bool.or_eq_true, decide_eq_true_eq]
    constructor
    · rintro ⟨g1, g2, g3⟩; rw [← hl (by omega) (by omega)]; exact ⟨⟨g1, g2⟩, by omega⟩
    · rintro ⟨⟨g1, g2⟩, g3⟩; rw [← hl (by omega) (by omega)] at g2; exact ⟨g1, g2, by omega⟩
  rw [if_neg k4, if_neg k4]
  by_cases k5 : e.kind = 5
  · rw [if_pos k5, if_pos k5]
    unfold bumpS
    rw [isSome_ite, R3, ← hclk, Bool.eq_iff_iff]
    simp only [Bool.and_eq_true, decide_eq_true_eq]
  rw [if_neg k5, if_neg k5]
  by_cases k6 : e.kind = 6
  · rw [if_pos k6, if_pos k6]
    obtain ⟨h1, h2, h3⟩ := OW e.at_ hat.1 (hatS (by omega) (by omega))
    unfold checkS
    rw [isSome_ite, R4, ← h2, hrv, hoth (by omega) (by omega), Bool.eq_iff_iff]
    unfold headB
    simp only [Bool.and_eq_true, Bool.not_eq_true', decide_eq_true_eq]
    constructor
    · rintro ⟨g1, g2, g3, g4⟩; exact ⟨⟨⟨g1, ((hr.cb g1).head ⟨hat.1, hat32⟩).1 g2⟩, g3⟩, g4⟩
    · rintro ⟨⟨⟨g1, g2⟩, g3⟩, g4⟩; exact ⟨g1, ((hr.cb g1).head ⟨hat.1, hat32⟩).2 g2, g3, g4⟩
  rw [if_neg k6, if_neg k6]
  by_cases k7 : e.kind = 7
  · rw [if_pos k7, if_pos k7]
    unfold commitS
    by_cases hz : e.v = 0
    · rw [if_pos hz, R1]
      by_cases h1 : t.at_ = 1
      · rw [if_pos ⟨hz, h1⟩, decide_eq_true h1]; rfl
      · rw [if_neg (fun h => h1 h.2), if_neg (fun h => h.1 hz), decide_eq_false h1]; rfl
    · rw [if_neg hz, if_neg (fun h => hz h.1), isSome_ite, R4, Bool.eq_iff_iff]
      simp only [Bool.and_eq_true, decide_eq_true_eq]
      have hwv := hr.wv
      constructor
      · rintro ⟨g1, g2, g3, g4⟩; rw [hwv (by omega) (by omega)]; exact ⟨⟨g2, (hr.cb g2).zero_iff.1 g3⟩, g4⟩
      · rintro ⟨⟨g1, g2⟩, g3⟩; rw [hwv (by omega) (by omega)] at g3; exact ⟨hz, g1, (hr.cb g1).zero_iff.2 g2, g3⟩
  rw [if_neg k7, if_neg k7]
  by_cases k8 : e.kind = 8
  · rw [if_pos k8, if_pos k8]
    obtain ⟨h1, h2, h3⟩ := OW (e.at_ % s.n) hmod.1 hmod.2
    unfold storeS
    rw [isSome_ite, R5, Bool.eq_iff_iff]
    simp only [Bool.and_eq_true, decide_eq_true_eq]
    constructor
    · rintro ⟨g1, g2, g3⟩
      rw [← (hr.s5 g1).2.1]
      have := (ht.own _ g3).2
      refine ⟨⟨g1, g2⟩, ?_⟩
      rw [← h1, hthe]; exact this
    · rintro ⟨⟨g1, g2⟩, g3⟩
      rw [← (hr.s5 g1).2.1] at g2
      refine ⟨g1, g2, ?_⟩
      rw [← h1, hthe] at g3
      have h5 := hj.ow (e.at_ % s.n).toNat (by omega) th (by rw [own_getD] at g3; exact g3)
      rw [hTt] at h5; exact h5
  rw [if_neg k8, if_neg k8]
  by_cases k9 : e.kind = 9
  · rw [if_pos k9, if_pos k9]
    unfold freedS headB
    rw [isSome_ite, R6, Bool.eq_iff_iff]
    simp only [Bool.and_eq_true, Bool.or_eq_true, decide_eq_true_eq]
    have hh := hob.head ⟨hat.1, hat32⟩
    rw [hh]
    have h5 : t.at_ = 5 → (t.stored = t.owned ↔ a.last = 8 ∧ (stpR s.n [] a.stored).length = a.locked.length) := fun g => by
      obtain ⟨q1, q2, q3, q4⟩ := hr.s5 g
      have hf := hr.f0 (by omega) (by omega)
      rw [hf] at hob
      have hob' : BitsL t.owned a.locked := by simpa using hob
      have hne := hob'.ne.1 (ht.busy (by omega))
      have hsub : ∀ x ∈ stpR s.n [] a.stored, x ∈ a.locked := fun x hx => by
        rcases (stpR_mem _ _ _ _).1 hx with hx | ⟨y, hy, rfl⟩
        · cases hx
        · exact q3 y hy
      have hup := stpR_up s.n a.stored [] .nil
      have hL := up_len a.locked (stpR s.n [] a.stored) hup hob'.up hsub
      constructor
      · intro he
        have hall : ∀ x ∈ a.locked, x ∈ stpR s.n [] a.stored := fun x hx => by
          have hx0 := hob'.rng x hx
          have := (hob'.bit x.toNat).2 (by rw [Int.toNat_of_nonneg hx0.1]; exact hx)
          rw [← he] at this
          obtain ⟨y, hy, hyx⟩ := (q1 _).1 this
          exact (stpR_mem _ _ _ _).2 (Or.inr ⟨y, hy, by omega⟩)
        have hL2 := up_len (stpR s.n [] a.stored) a.locked hob'.up hup hall
        refine ⟨?_, by omega⟩
        have := l5 g
        have h7 : a.last ≠ 7 := fun h7 => by
          have := q4 h7
          obtain ⟨x, r, hx⟩ := List.exists_cons_of_ne_nil hne
          have h2 := hall x (by rw [hx]; exact List.mem_cons_self ..)
          rw [this] at h2; cases h2
        omega
      · rintro ⟨g1, g2⟩
        refine Nat.eq_of_testBit_eq fun i => ?_
        rw [Bool.eq_iff_iff, q1, hob'.bit]
        constructor
        · rintro ⟨x, hx, hxi⟩; rw [← hxi]; exact q3 x hx
        · intro hi
          rcases (stpR_mem _ _ _ _).1 (hL.2 g2 _ hi) with hx | hx
          · cases hx
          · exact hx
    constructor
    · rintro ⟨g1 | ⟨g1, g2⟩, g3⟩
      · exact ⟨Or.inr g1, g3⟩
      · exact ⟨Or.inl ((h5 g1).1 g2), g3⟩
    · rintro ⟨⟨g1, g2⟩ | g1, g3⟩
      · have g5 : t.at_ = 5 := by omega
        exact ⟨Or.inr ⟨g5, (h5 g5).2 ⟨g1, g2⟩⟩, g3⟩
      · exact ⟨Or.inl g1, g3⟩
  rw [if_neg k9, if_neg k9]
  by_cases k10 : e.kind = 10
  · rw [if_pos k10, if_neg (by omega), if_neg (by omega), if_neg (by omega)]
    obtain ⟨h1, h2, h3⟩ := OW e.at_ hat.1 (hatS (by omega) (by omega))
    unfold abortS
    rw [isSome_ite]
    have hwhy : 1 ≤ e.why ∧ e.why ≤ 6 := by
      unfold mayE at hm
      simp only [Bool.and_eq_true, decide_eq_true_eq] at hm
      exact hm.1.2.2.2.1 k10
    unfold fitsS abortR
    rw [hoth (by omega) (by omega), R1, R2, R3, R4, ← h1, ← h2, hrv]
    rw [Bool.decide_eq_true]
    have hl := hr.lk
    by_cases w1 : e.why = 1
    · rw [if_pos w1, if_pos w1]
    rw [if_neg w1, if_neg w1]
    by_cases w2 : e.why = 2
    · rw [if_pos w2, if_pos w2, Bool.eq_iff_iff]
      simp only [Bool.and_eq_true, decide_eq_true_eq]
      omega
    rw [if_neg w2, if_neg w2]
    by_cases w3 : e.why = 3
    · rw [if_pos w3, if_pos w3, Bool.eq_iff_iff]
      simp only [Bool.and_eq_true, Bool.or_eq_true, Bool.not_eq_true', decide_eq_true_eq, decide_eq_false_iff_not]
      have hc : t.at_ = 2 → ((lookA a).at_ = e.at_ ↔ e.at_ = t.stripe) := fun g => by rw [(hr.l2a g).1]; exact ⟨fun h => h.symm, fun h => h.symm⟩
      constructor
      · rintro ⟨g1, g2, g3⟩
        refine ⟨⟨g1, (hc g1).2 g2⟩, ?_⟩
        rw [(hr.l2a g1).2]
        rw [g2] at h1 h2 h3 ⊢
        rcases Int.lt_or_le (s.own t.stripe) 0 with h5 | h5
        · exact Or.inr (fun h6 => g3 ⟨by omega, h6⟩)
        · exact Or.inl h5
      · rintro ⟨⟨g1, g2⟩, g3⟩
        have g2 := (hc g1).1 g2
        refine ⟨g1, g2, fun h => ?_⟩
        rw [(hr.l2a g1).2] at g3
        rw [g2] at g3
        rcases g3 with g3 | g3
        · omega
        · exact g3 h.2
    rw [if_neg w3, if_neg w3]
    by_cases w4 : e.why = 4
    · rw [if_pos w4, if_pos w4, Bool.eq_iff_iff]
      simp only [Bool.and_eq_true, Bool.or_eq_true, decide_eq_true_eq]
      constructor
      · rintro ⟨⟨g1, g2⟩, g3⟩; rw [← hl (by omega) (by omega)]; exact ⟨⟨g1, g2⟩, g3⟩
      · rintro ⟨⟨g1, g2⟩, g3⟩; rw [← hl (by omega) (by omega)] at g2; exact ⟨⟨g1, g2⟩, g3⟩
    rw [if_neg w4, if_neg w4]
    by_cases w5 : e.why = 5
    · rw [if_pos w5, if_pos w5, Bool.eq_iff_iff]
      unfold headB
      simp only [Bool.and_eq_true, Bool.or_eq_true, decide_eq_true_eq]
      constructor
      · rintro ⟨⟨g1, g2⟩, g3⟩; exact ⟨⟨g1, ((hr.cb g1).head ⟨hat.1, hat32⟩).1 g2⟩, g3⟩
      · rintro ⟨⟨g1, g2⟩, g3⟩; exact ⟨⟨g1, ((hr.cb g1).head ⟨hat.1, hat32⟩).2 g2⟩, g3⟩
    rw [if_neg w5, if_neg w5, if_pos (by omega)]
  rw [if_neg k10]
  by_cases k11 : e.kind = 11
  · rw [if_pos k11, if_pos k11]
    unfold undoS headB
    rw [isSome_ite, R7, Bool.eq_iff_iff]
    simp only [Bool.and_eq_true, decide_eq_true_eq]
    rw [hob.head ⟨hat.1, hat32⟩]
  rw [if_neg k11, if_neg k11]
  by_cases k12 : e.kind = 12
  · rw [if_pos k12, if_pos k12]
    unfold waitS
    rw [isSome_ite, R1]
  rw [if_neg k12, if_neg k12, if_pos (by omega)]
  unfold wakeS
  rw [isSome_ite, R8, Bool.eq_iff_iff]
  simp only [Bool.and_eq_true, decide_eq_true_eq]
  refine and_congr_right fun g => ?_
  have hb := hr.rb (by omega) (by omega)
  unfold wakesS
  rw [List.any_eq_true, List.any_eq_true]
  constructor
  · rintro ⟨i, hi, hx⟩
    rw [Bool.and_eq_true, decide_eq_true_eq, hb.bit] at hx
    rw [List.mem_range] at hi
    obtain ⟨q1, q2, q3⟩ := OW i (by omega) (by omega)
    refine ⟨i, hx.1, ?_⟩
    unfold freshR
    rw [Bool.and_eq_true, decide_eq_true_eq, decide_eq_true_eq, ← q1, ← q2, hrv]
    omega
  · rintro ⟨x, hx, hf⟩
    have hx0 := hb.rng x hx
    have hxn := hr.rn (by omega) (by omega) x hx
    obtain ⟨q1, q2, q3⟩ := OW x hx0.1 hxn
    unfold freshR at hf
    rw [Bool.and_eq_true, decide_eq_true_eq, decide_eq_true_eq, ← q1, ← q2, hrv] at hf
    refine ⟨x.toNat, List.mem_range.2 (by omega), ?_⟩
    rw [Bool.and_eq_true, decide_eq_true_eq, hb.bit, Int.toNat_of_nonneg hx0.1]
    exact ⟨hx, by omega, hf.2⟩
end Go.Proofs.YtcddlnmcjmhbcaaDoor
/-
  The document's checker behind one event more: what it tells anew is what the machine keeps. Nothing of the program.
-/
namespace Go.Proofs.YtcddlnmcjmhbcaaDoor
set_option linter.unusedVariables false
set_option linter.unusedSimpArgs false
set_option linter.unusedVariables false
theorem mine_ne {S : Int} {i : Int} {e : Ev} {l : List Ev} (h : e.th ≠ i) : mineV S i (e :: l) = mineV S i l := by simp [mineV, h]
theorem mine_eq {S : Int} {i : Int} {e : Ev} {l : List Ev} (h : e.th = i) : mineV S i (e :: l) = stepA S (mineV S i l) e := by simp [mineV, h]
theorem comV_cons (S i : Int) (e : Ev) (l : List Ev) : comV S i (e :: l) = comV S i l + if e.th = i ∧ (e.kind = 7 ∨ e.kind = 9) ∧ overA (mineV S i (e :: l)) = true then 1 else 0 := rfl
theorem RefI.keep {s s' : Sh} {l : List Ev} {e : Ev} (h : RefI s l) {th : Nat} {t' : Th} (hthe : e.th = (th : Int)) (hlt : th < s.ths.length) (hths : s'.ths = s.ths.set th t') (hn : s'.sts.length = s.sts.length)
    (hclk : s'.clock = clkV (e :: l)) (hown : ∀ i, i < s.sts.length → stO s' i = ownV (e :: l) i) (hver : ∀ i, i < s.sts.length → stV s' i = verV (e :: l) i)
    (how : ∀ i, i < s.sts.length → ∀ j : Nat, stO s' i = (j : Int) → (s'.ths.getD j Th.zero).owned.testBit i = true)
    (ht : ThR s.n t' (stepA s.n (mineV s.n th l) e))
    (hc : t'.commits = (s.ths.getD th Th.zero).commits + if (e.kind = 7 ∨ e.kind = 9) ∧ overA (stepA s.n (mineV s.n th l) e) = true then 1 else 0)
    (hb : 4 ≤ t'.at_ → t'.at_ ≤ 6 → bumpV (e :: l) th = t'.wv) : RefI s' (e :: l) := by
  have hsn : s'.n = s.n := by unfold Sh.n; rw [hn]
  refine ⟨hclk, fun i hi => hown i (by omega), fun i hi => hver i (by omega), fun i hi => how i (by omega), fun i hi => ?_⟩
  rw [hths, List.length_set] at hi
  rw [hths, hsn]
  by_cases he : th = i
  · subst he
    rw [getD_set_eq _ _ _ _ hlt, mine_eq hthe]
    refine ⟨ht, ?_, hb⟩
    rw [hc, (h.th th hlt).2.1, comV_cons, mine_eq hthe]
    simp only [hthe, true_and]
  · rw [getD_set_ne _ _ _ _ _ he, mine_ne (by omega)]
    obtain ⟨h1, h2, h3⟩ := h.th i hi
    refine ⟨h1, ?_, fun g1 g2 => ?_⟩
    · rw [h2, comV_cons, if_neg (by rintro ⟨q, -⟩; omega), Int.add_zero]
    · rw [← h3 g1 g2]
      show (if e.kind = 5 ∧ e.th = (i : Int) then e.v else bumpV l i) = _
      rw [if_neg (by rintro ⟨-, q⟩; omega)]
/-- Whoever owns a stripe has it among its own. -/
theorem ow_keep {s s' : Sh} {th : Nat} {t' : Th} (hlt : th < s.ths.length) (hths : s'.ths = s.ths.set th t') (h : ∀ i, i < s.sts.length → ∀ j : Nat, stO s i = (j : Int) → (s.ths.getD j Th.zero).owned.testBit i = true)
    (hs : ∀ i, i < s.sts.length → ∀ j : Nat, stO s' i = (j : Int) → (j ≠ th → stO s i = (j : Int)) ∧ (j = th → t'.owned.testBit i = true)) :
    ∀ i, i < s.sts.length → ∀ j : Nat, stO s' i = (j : Int) → (s'.ths.getD j Th.zero).owned.testBit i = true := by
  intro i hi j hj
  obtain ⟨h1, h2⟩ := hs i hi j hj
  rw [hths]
  by_cases he : th = j
  · subst he; rw [getD_set_eq _ _ _ _ hlt]; exact h2 rfl
  · rw [getD_set_ne _ _ _ _ _ he]; exact h i hi j (h1 (Ne.symm he))
theorem look_snoc (a : AtR) (L : List Ev) (e : Ev) (h : a.L = L ++ [e]) : lookA a = e := by unfold lookA; rw [h]; simp
theorem lt_stb {S : Int} {l : List Int} {x : Int} (h : ∀ y ∈ l, y < S) (hx : x < S) : ∀ y ∈ putL l x, y < S := fun y hy => by
  rcases (mem_putL l x y).1 hy with rfl | hy
  · exact hx
  · exact h y hy
set_option maxHeartbeats 8000000 in
theorem ref_step {s s' : Sh} {l : List Ev} {e : Ev} (hw : Wf s) (hj : RefI s l) (h : stepS s e = some s') : RefI s' (e :: l) := by
  have hown1 := owner_step hw h
  obtain ⟨th, hthe, htn, hlt, hm, hk, hat, hatS, hmod, hv, hd⟩ := stepS_inv hw h
  have ht := hw.th th hlt
  obtain ⟨hr, hcm, hbv⟩ := hj.th th hlt
  have hsz := hw.size
  have hsn : s.n = s.sts.length := rfl
  have hown : ∀ i, i < s.sts.length → stO s' i = ownV (e :: l) i := fun i hi => by
    obtain ⟨o1, o2, -, -, -, o3⟩ := hown1
    have h0 := hj.own i hi
    unfold ownV
    by_cases k4 : e.kind = 4
    · rw [(o1 k4).2.2 i, if_pos k4, h0]
      by_cases hi : e.at_ = (i : Int)
      · rw [if_pos hi, if_pos (by omega)]
      · rw [if_neg hi, if_neg (by omega)]
    rw [if_neg k4]
    by_cases k9 : e.kind = 9 ∨ e.kind = 11
    · rw [(o2 k9).2.2 i, if_pos k9, h0]
      by_cases hi : e.at_ = (i : Int)
      · rw [if_pos hi, if_pos (by omega)]
      · rw [if_neg hi, if_neg (by omega)]
    rw [if_neg k9, o3 k4 (by omega) (by omega) i, h0]
    split <;> rfl
  have hver0 : e.kind ≠ 2 → e.kind ≠ 9 → (∀ i, i < s.sts.length → stV s' i = stV s i) → ∀ i, i < s.sts.length → stV s' i = verV (e :: l) i := fun k2 k9 hh i hi => by
    unfold verV
    rw [if_neg (by omega), if_neg (by omega), hh i hi, hj.ver i hi]
  have hclk0 : e.kind ≠ 1 → e.kind ≠ 5 → s.clock = clkV (e :: l) := fun k1 k5 => by
    unfold clkV; rw [if_neg (by omega)]; exact hj.clk
  have hbv0 : e.kind ≠ 5 → bumpV (e :: l) th = bumpV l th := fun k5 => by
    show (if e.kind = 5 ∧ e.th = (th : Int) then e.v else bumpV l th) = _
    rw [if_neg (by omega)]
  have how0 : ∀ {t' : Th}, s'.ths = s.ths.set th t' → e.kind ≠ 4 → e.kind ≠ 9 → e.kind ≠ 11 → (∀ b, (s.ths.getD th Th.zero).owned.testBit b = true → t'.owned.testBit b = true) → ∀ i, i < s.sts.length → ∀ j : Nat, stO s' i = (j : Int) → (s'.ths.getD j Th.zero).owned.testBit i = true := fun {t'} hths k4 k9 k11 hb =>
    ow_keep hlt hths hj.ow fun i hi j hij => by
      rw [hown1.2.2.2.2.2 k4 k9 k11 i] at hij
      exact ⟨fun _ => hij, fun hjt => by subst hjt; exact hb i (hj.ow i hi _ hij)⟩
  have hover := hr.over
  have h0 := ht.at0
  have hn0 : s.n ≤ 32 := by omega
  generalize hT : s.ths.getD th Th.zero = t at ht hr hcm hbv hover h0 hd
  generalize ha : mineV s.n (↑th) l = a at hr hover
  have l1 := hr.l1; have l2 := hr.l2; have l3 := hr.l3; have l4 := hr.l4; have l5 := hr.l5; have l6 := hr.l6; have l7 := hr.l7; have l8 := hr.l8
  have hRV := hr.rv; have hNE := hr.ne; have hOB := hr.ob; have hRB := hr.rb; have hRN := hr.rn; have hCL := hr.cl; have hCB := hr.cb; have hC0 := hr.c0; have hF0 := hr.f0; have hLK := hr.lk; have hS0 := hr.s0; have hS5 := hr.s5; have hWV := hr.wv; have hWY := hr.wy; have hW7 := hr.w7
  have keep : ∀ {t' : Th} (a' : AtR), stepA s.n a e = a' → s'.ths = s.ths.set th t' → s'.sts.length = s.sts.length → s'.clock = clkV (e :: l) → (∀ i, i < s.sts.length → stV s' i = verV (e :: l) i) →
      (∀ i, i < s.sts.length → ∀ j : Nat, stO s' i = (j : Int) → (s'.ths.getD j Th.zero).owned.testBit i = true) → ThR s.n t' a' → t'.commits = t.commits + (if (e.kind = 7 ∨ e.kind = 9) ∧ overA a' = true then 1 else 0) → (4 ≤ t'.at_ → t'.at_ ≤ 6 → bumpV (e :: l) th = t'.wv) → RefI s' (e :: l) :=
    fun a' e1 e2 e3 e4 e5 e6 e7 e8 e9 => by
      subst e1
      exact hj.keep hthe hlt e2 e3 e4 hown e5 e6 (by rw [ha]; exact e7) (by rw [ha, hT]; exact e8) e9
  have keep0 : ∀ {t' : Th} (a' : AtR), stepA s.n a e = a' → s'.ths = s.ths.set th t' → s'.sts.length = s.sts.length → s'.clock = clkV (e :: l) → (∀ i, i < s.sts.length → stV s' i = verV (e :: l) i) →
      e.kind ≠ 4 → e.kind ≠ 9 → e.kind ≠ 11 → (∀ b, t.owned.testBit b = true → t'.owned.testBit b = true) → ThR s.n t' a' → t'.commits = t.commits + (if (e.kind = 7 ∨ e.kind = 9) ∧ overA a' = true then 1 else 0) → (4 ≤ t'.at_ → t'.at_ ≤ 6 → bumpV (e :: l) th = t'.wv) → RefI s' (e :: l) :=
    fun a' e1 e2 e3 e4 e5 q4 q9 q11 e6 e7 e8 e9 => keep a' e1 e2 e3 e4 e5 (how0 e2 q4 q9 q11 (by rw [hT]; exact e6)) e7 e8 e9
  unfold doesS at hd
  by_cases k1 : e.kind = 1
  · rw [if_pos k1] at hd
    unfold beginS at hd; split at hd
    case isFalse => cases hd
    rename_i hc
    have hid := ht.idle (Or.inl hc.1)
    cases hd
    refine keep0 ⟨[e], e.v, 0, [], [], [], 0, [], 0, 1⟩ (by simp [stepA, stepB, begA, k1]) (t' := ⟨1, t.commits, e.v, 0, 0, 0, 0, 0, 0, 0, -1, -1, false⟩) (by simp [Sh.setTh, htn]) rfl (by simp [clkV, k1, Sh.setTh]) (hver0 (by omega) (by omega) fun _ _ => rfl) (by omega) (by omega) (by omega) (fun b hb => by rw [hid, Nat.zero_testBit] at hb; cases hb) ?_ ?_ (by simp)
    · refine ⟨by simp [overA], by simp, by simp, by simp, by simp, by simp, by simp, by simp, by simp, by simp, by simp, by simp, by simp, by simp, fun _ _ => by simpa using BitsL.nil, fun _ _ => BitsL.nil, by simp, by simp, by simp, by simp, by simp, by simp [lastI], by simp, by simp, by simp, by simp, by simp⟩
    · simp [k1]
  rw [if_neg k1] at hd
  by_cases k2 : e.kind = 2
  · rw [if_pos k2] at hd
    unfold lookS at hd; split at hd
    case isFalse => cases hd
    rename_i hc
    obtain ⟨hs1, hs2⟩ := hatS (by omega) (by omega)
    cases hd
    refine keep0 { a with L := a.L ++ [e], last := 2 } (by simp [stepA, stepB, begA, k2]) (t' := { t with at_ := 2, stripe := e.at_, v := e.v }) (by simp [Sh.setTh, Sh.setSt, htn]) (by simp [Sh.setTh, Sh.setSt]) (hclk0 k1 (by omega)) (fun i hi => ?_) (by omega) (by omega) (by omega) (fun b hb => hb) ?_ ?_ (by simp)
    · show ((s.sts.set e.at_.toNat (-1, e.v)).getD i (-1, 0)).2 = _
      unfold verV
      by_cases hi2 : e.at_.toNat = i
      · subst hi2; rw [getD_set_eq _ _ _ _ hs2, if_pos ⟨by omega, k2⟩]
      · rw [getD_set_ne _ _ _ _ _ hi2, if_neg (by omega), if_neg (by omega), ← hj.ver i hi]; rfl
    · have := hc.1
      refine ⟨by simp [overA], by simp, by simp, by simp, by simp, fun _ => by rw [look_snoc _ a.L e rfl]; exact ⟨rfl, rfl⟩, by simp, by simp, by simp, by simp, by simp, by simp, fun _ _ => hRV (by omega) (by omega), by simp, fun _ _ => hOB (by omega) (by omega), fun _ _ => hRB (by omega) (by omega), fun _ _ => hRN (by omega) (by omega), fun _ _ => hCL (by omega) (by omega), by simp, fun _ _ => hC0 (by omega) (by omega), fun _ _ => hF0 (by omega) (by omega), fun _ _ => hLK (by omega) (by omega), fun _ _ => hS0 (by omega) (by omega), by simp, by simp, fun _ _ _ => hWY (by omega) (by omega) (by omega), by simp⟩
    · simp [k2]
  rw [if_neg k2] at hd
  by_cases k3 : e.kind = 3
  · rw [if_pos k3] at hd
    unfold loadS at hd; split at hd
    case isFalse => cases hd
    rename_i hc
    have := hc.1
    cases hd
    refine keep0 { a with L := a.L ++ [e], last := 3, read := putL a.read (e.at_ % s.n) } (by simp [stepA, stepB, begA, k3]) (t' := { t with at_ := 1, read := setb t.read t.stripe.toNat }) (by simp [Sh.setTh, htn]) rfl (hclk0 k1 (by omega)) (hver0 (by omega) (by omega) fun _ _ => rfl) (by omega) (by omega) (by omega) (fun b hb => hb) ?_ ?_ (by simp)
    · refine ⟨by simp [overA], by simp, by simp, by simp, by simp, by simp, by simp, by simp, by simp, by simp, by simp, by simp, fun _ _ => hRV (by omega) (by omega), by simp, fun _ _ => hOB (by omega) (by omega), fun _ _ => by rw [← hc.2.1]; exact (hRB (by omega) (by omega)).put (by omega), fun _ _ => lt_stb (hRN (by omega) (by omega)) hmod.2, fun _ _ => by rw [(hC0 (by omega) (by omega)).2]; exact Nat.zero_le _, by simp, fun _ _ => hC0 (by omega) (by omega), fun _ _ => hF0 (by omega) (by omega), fun _ _ => hLK (by omega) (by omega), fun _ _ => hS0 (by omega) (by omega), by simp, by simp, fun _ _ _ => hWY (by omega) (by omega) (by omega), by simp⟩
    · simp [k3]
  rw [if_neg k3] at hd
  by_cases k4 : e.kind = 4
  · rw [if_pos k4] at hd
    unfold lockS at hd; split at hd
    case isFalse => cases hd
    rename_i hc
    have := hc.1
    obtain ⟨hs1, hs2⟩ := hatS (by omega) (by omega)
    cases hd
    refine keep { a with L := a.L ++ [e], last := 4, locked := a.locked ++ [e.at_] } (by simp [stepA, stepB, begA, k4]) (t' := { t with at_ := 3, locked := e.at_, owned := setb t.owned e.at_.toNat }) (by simp [Sh.setTh, Sh.setSt, htn]) (by simp [Sh.setTh, Sh.setSt]) (hclk0 k1 (by omega)) (hver0 (by omega) (by omega) fun i hi => ?_) (ow_keep (t' := { t with at_ := 3, locked := e.at_, owned := setb t.owned e.at_.toNat }) hlt (by simp [Sh.setTh, Sh.setSt, htn]) hj.ow fun i hi j hij => ?_) ?_ ?_ (by simp)
    · show ((s.sts.set e.at_.toNat (e.th, s.ver e.at_)).getD i (-1, 0)).2 = _
      by_cases hi2 : e.at_.toNat = i
      · subst hi2; rw [getD_set_eq _ _ _ _ hs2]; rfl
      · rw [getD_set_ne _ _ _ _ _ hi2]; rfl
    · rw [(hown1.1 k4).2.2 i] at hij
      by_cases hi2 : i = e.at_.toNat
      · rw [if_pos hi2] at hij
        exact ⟨fun q => absurd (by omega) q, fun _ => by simp [testBit_setb, hi2]⟩
      · rw [if_neg hi2] at hij
        refine ⟨fun _ => hij, fun hjt => ?_⟩
        subst hjt
        have := hj.ow i hi _ hij
        rw [hT] at this
        simp [testBit_setb, this]
    · have hf := hF0 (by omega) (by omega)
      refine ⟨by simp [overA], by simp, by simp, by simp, by simp, by simp, by simp, by simp, by simp, by simp, by simp, by simp, fun _ _ => hRV (by omega) (by omega), by simp, fun _ _ => ?_, fun _ _ => hRB (by omega) (by omega), fun _ _ => hRN (by omega) (by omega), fun _ _ => hCL (by omega) (by omega), by simp, fun _ _ => hC0 (by omega) (by omega), fun _ _ => hF0 (by omega) (by omega), fun _ _ => by simp [lastI], fun _ _ => hS0 (by omega) (by omega), by simp, by simp, fun _ _ _ => hWY (by omega) (by omega) (by omega), by simp⟩
      have hob := hOB (by omega) (by omega)
      rw [hf] at hob ⊢
      simp only [List.length_nil, List.drop_zero] at hob ⊢
      exact hob.snoc (by omega) (by rw [← hLK (by omega) (by omega)]; exact hc.2.1)
    · simp [k4]
  rw [if_neg k4] at hd
  by_cases k5 : e.kind = 5
  · rw [if_pos k5] at hd
    unfold bumpS at hd; split at hd
    case isFalse => cases hd
    rename_i hc
    have := hc.1
    cases hd
    refine keep0 { a with L := a.L ++ [e], last := 5, wv := e.v } (by simp [stepA, stepB, begA, k5]) (t' := { t with at_ := 4, wv := e.v, check := if e.v = t.rv + 1 then t.check else t.read }) (by simp [Sh.setTh, htn]) rfl (by simp [clkV, k5, Sh.setTh]) (hver0 (by omega) (by omega) fun _ _ => rfl) (by omega) (by omega) (by omega) (fun b hb => hb) ?_ ?_ ?_
    · obtain ⟨c1, c2⟩ := hC0 (by omega) (by omega)
      refine ⟨by simp [overA], by simp, by simp, by simp, by simp, by simp, by simp, by simp, by simp, by simp, by simp, by simp, fun _ _ => hRV (by omega) (by omega), by simp, fun _ _ => hOB (by omega) (by omega), fun _ _ => hRB (by omega) (by omega), fun _ _ => hRN (by omega) (by omega), fun _ _ => hCL (by omega) (by omega), fun _ => ?_, by simp, fun _ _ => hF0 (by omega) (by omega), by simp, fun _ _ => hS0 (by omega) (by omega), by simp, by simp, fun _ _ _ => hWY (by omega) (by omega) (by omega), by simp⟩
      unfold leftA
      simp only [c1, c2, hRV (by omega) (by omega)]
      split
      · exact BitsL.nil
      · simpa using hRB (by omega) (by omega)
    · simp [k5]
    · intro _ _; show (if e.kind = 5 ∧ e.th = (th : Int) then e.v else bumpV l th) = _; rw [if_pos ⟨k5, hthe⟩]
  rw [if_neg k5] at hd
  by_cases k6 : e.kind = 6
  · rw [if_pos k6] at hd
    unfold checkS at hd; split at hd
    case isFalse => cases hd
    rename_i hc
    have := hc.1
    obtain ⟨hs1, hs2⟩ := hatS (by omega) (by omega)
    have hcb := hCB hc.1
    have hhd := (hcb.head ⟨hat.1, by omega⟩).1 hc.2.1
    cases hd
    refine keep0 { a with L := a.L ++ [e], last := 6, checked := a.checked + 1 } (by simp [stepA, stepB, begA, k6]) (t' := { t with check := clrb t.check e.at_.toNat }) (by simp [Sh.setTh, htn]) rfl (hclk0 k1 (by omega)) (hver0 (by omega) (by omega) fun _ _ => rfl) (by omega) (by omega) (by omega) (fun b hb => hb) ?_ ?_ ?_
    · have hne : ¬ a.wv = a.rv + 1 := fun hne => by unfold leftA at hhd; rw [if_pos hne] at hhd; cases hhd
      unfold leftA at hhd hcb
      rw [if_neg hne] at hhd hcb
      have hdr := head_drop hhd
      rw [hdr] at hcb
      refine ⟨by simp [overA]; omega, by simp; omega, by simp; omega, by simp; omega, by simp; omega, by simp; omega, by simp; omega, by simp, by simp; omega, by simp; omega, by simp; omega, by simp; omega, fun _ _ => hRV (by omega) (by omega), by simp, fun _ _ => hOB (by omega) (by omega), fun _ _ => hRB (by omega) (by omega), fun _ _ => hRN (by omega) (by omega), fun _ _ => ?_, fun _ => ?_, by simp; omega, fun _ _ => hF0 (by omega) (by omega), by simp; omega, fun _ _ => hS0 (by omega) (by omega), by simp; omega, fun _ _ => hWV (by omega) (by omega), fun _ _ _ => hWY (by omega) (by omega) (by omega), by simp; omega⟩
      · rcases Nat.lt_or_ge a.checked a.read.length with h5 | h5
        · exact h5
        · rw [List.drop_eq_nil_of_le h5] at hdr; cases hdr
      · unfold leftA
        rw [if_neg hne]
        exact hcb.tail
    · simp [k6]
    · intro q1 q2; rw [hbv0 k5]; exact hbv q1 q2
  rw [if_neg k6] at hd
  have setThs : ∀ (q : Sh) (t' : Th), q.ths = s.ths → (q.setTh e.th t').ths = s.ths.set th t' := fun q t' h1 => by simp [Sh.setTh, h1, htn]
  by_cases k7 : e.kind = 7
  · rw [if_pos k7] at hd
    unfold commitS at hd; split at hd
    · rename_i hc
      have := hc.2
      have hl0 : a.locked = [] := by
        have h1 := (hOB (by omega) (by omega)).zero_iff.1 (ht.idle (Or.inr (Or.inl hc.2)))
        rw [hF0 (by omega) (by omega)] at h1; simpa using h1
      cases hd
      have hov : overA { a with L := a.L ++ [e], last := 7 } = true := by simp [overA, hl0]
      refine keep0 { a with L := a.L ++ [e], last := 7 } (by simp [stepA, stepB, begA, k7]) (t' := { t with at_ := 0, commits := t.commits + 1 }) (setThs _ _ rfl) rfl (hclk0 k1 k5) (hver0 k2 (by omega) fun _ _ => rfl) (by omega) (by omega) (by omega) (fun b hb => hb) (ThR.idle (Or.inl rfl) hov (by simp) (fun _ => by have := hWY (by omega) (by omega) (by omega); simp only; omega)) ?_ (by simp)
      rw [if_pos ⟨Or.inl k7, hov⟩]
    · split at hd
      case isFalse => cases hd
      rename_i hc
      have := hc.2.1
      have hl0 : a.locked ≠ [] := by
        have h1 := (hOB (by omega) (by omega)).ne.1 (ht.busy (by omega))
        rw [hF0 (by omega) (by omega)] at h1; simpa using h1
      cases hd
      have hov : overA { a with L := a.L ++ [e], last := 7 } = false := by simp [overA, hl0]
      refine keep0 { a with L := a.L ++ [e], last := 7 } (by simp [stepA, stepB, begA, k7]) (t' := { t with at_ := 5 }) (setThs _ _ rfl) rfl (hclk0 k1 k5) (hver0 k2 (by omega) fun _ _ => rfl) (by omega) (by omega) (by omega) (fun b hb => hb) ?_ ?_ (fun _ _ => by rw [hbv0 k5]; exact hbv (by omega) (by omega))
      · obtain ⟨c1, c2, c3⟩ := hS0 (by omega) (by omega)
        refine ⟨by rw [hov]; simp, by simp, by simp, by simp, by simp, by simp, by simp, by simp, by simp, by simp, by simp, by simp, fun _ _ => hRV (by omega) (by omega), by simp, fun _ _ => hOB (by omega) (by omega), fun _ _ => hRB (by omega) (by omega), fun _ _ => hRN (by omega) (by omega), fun _ _ => hCL (by omega) (by omega), by simp, by simp, fun _ _ => hF0 (by omega) (by omega), by simp, by simp, fun _ => ?_, fun _ _ => hWV (by omega) (by omega), fun _ _ _ => hWY (by omega) (by omega) (by omega), by simp⟩
        simp only [c1, c2, c3]
        exact ⟨fun b => by simp, rfl, by simp, fun _ => trivial⟩
      · rw [if_neg (by rw [hov]; simp)]; simp
  rw [if_neg k7] at hd
  by_cases k8 : e.kind = 8
  · rw [if_pos k8] at hd
    unfold storeS at hd; split at hd
    case isFalse => cases hd
    rename_i hc
    have := hc.1
    obtain ⟨c1, c2, c3, c4⟩ := hS5 hc.1
    have hob := hOB (by omega) (by omega)
    have hf := hF0 (by omega) (by omega)
    cases hd
    refine keep0 { a with L := a.L ++ [e], last := 8, stored := a.stored ++ [e.at_] } (by simp [stepA, stepB, begA, k8]) (t' := { t with var := e.at_, stored := setb t.stored (e.at_ % s.n).toNat }) (setThs _ _ rfl) rfl (hclk0 k1 k5) (hver0 k2 (by omega) fun _ _ => rfl) (by omega) (by omega) (by omega) (fun b hb => hb) ?_ ?_ (fun _ _ => by rw [hbv0 k5]; exact hbv (by omega) (by omega))
    · refine ⟨by simp [overA]; omega, by simp; omega, by simp; omega, by simp; omega, by simp; omega, by simp; omega, by simp; omega, by simp; omega, by simp, by simp; omega, by simp; omega, by simp; omega, fun _ _ => hRV (by omega) (by omega), by simp, fun _ _ => hOB (by omega) (by omega), fun _ _ => hRB (by omega) (by omega), fun _ _ => hRN (by omega) (by omega), fun _ _ => hCL (by omega) (by omega), by simp; omega, by simp; omega, fun _ _ => hF0 (by omega) (by omega), by simp; omega, by simp; omega, fun _ => ⟨fun b => ?_, by simp [lastI], fun x hx => ?_, by simp⟩, fun _ _ => hWV (by omega) (by omega), fun _ _ _ => hWY (by omega) (by omega) (by omega), by simp; omega⟩
      · simp only [testBit_setb, Bool.or_eq_true, decide_eq_true_eq, c1 b]
        constructor
        · rintro (⟨x, h1, h2⟩ | h1)
          · exact ⟨x, List.mem_append_left _ h1, h2⟩
          · exact ⟨e.at_, List.mem_append_right _ (List.mem_singleton.2 rfl), by omega⟩
        · rintro ⟨x, h1, h2⟩
          rcases List.mem_append.1 h1 with h1 | h1
          · exact Or.inl ⟨x, h1, h2⟩
          · rw [List.mem_singleton] at h1; subst h1; exact Or.inr (by omega)
      · rcases List.mem_append.1 hx with hx | hx
        · exact c3 x hx
        · rw [List.mem_singleton.1 hx]
          have h1 := (hob.bit _).1 hc.2.2
          rw [hf, Int.toNat_of_nonneg hmod.1] at h1
          simpa using h1
    · simp [k8]
  rw [if_neg k8] at hd
  have hdrop : 1 ≤ t.at_ → t.at_ ≤ 8 → e.at_ < 32 → e.at_ = leastb t.owned → a.locked.drop a.freed.length = e.at_ :: a.locked.drop (a.freed.length + 1) ∧ BitsL (clrb t.owned e.at_.toNat) (a.locked.drop (a.freed.length + 1)) ∧ (clrb t.owned e.at_.toNat = 0 ↔ a.freed.length + 1 = a.locked.length) := fun q1 q2 q3 q4 => by
    have hob := hOB q1 q2
    have hdr := head_drop ((hob.head ⟨hat.1, q3⟩).1 q4)
    rw [hdr] at hob
    have hlen := congrArg List.length hdr
    simp only [List.length_drop, List.length_cons] at hlen
    refine ⟨hdr, hob.tail, ?_⟩
    rw [hob.tail.zero_iff, List.drop_eq_nil_iff]
    omega
  by_cases k9 : e.kind = 9
  · rw [if_pos k9] at hd
    unfold freedS at hd; split at hd
    case isFalse => cases hd
    rename_i hc
    obtain ⟨hs1, hs2⟩ := hatS k3 k8
    obtain ⟨d1, d2, d3⟩ := hdrop (by omega) (by omega) (by omega) hc.2
    have hwhy := hWY (by omega) (by omega) (by omega)
    have hverF : ∀ i, i < s.sts.length → ((s.sts.set e.at_.toNat (-1, t.wv)).getD i (-1, 0)).2 = verV (e :: l) i := fun i hi => by
      unfold verV
      by_cases hi2 : e.at_.toNat = i
      · subst hi2; rw [getD_set_eq _ _ _ _ hs2, if_neg (by omega), if_pos ⟨by omega, k9⟩, hthe]; exact (hbv (by omega) (by omega)).symm
      · rw [getD_set_ne _ _ _ _ _ hi2, if_neg (by omega), if_neg (by omega), ← hj.ver i hi]; rfl
    have howF : ∀ {t' : Th}, s'.ths = s.ths.set th t' → t'.owned = clrb t.owned e.at_.toNat → ∀ i, i < s.sts.length → ∀ j : Nat, stO s' i = (j : Int) → (s'.ths.getD j Th.zero).owned.testBit i = true := fun {t'} h1 h2 => ow_keep hlt h1 hj.ow fun i hi j hij => by
      rw [(hown1.2.1 (Or.inl k9)).2.2 i] at hij
      by_cases hi2 : i = e.at_.toNat
      · rw [if_pos hi2] at hij; omega
      · rw [if_neg hi2] at hij
        refine ⟨fun _ => hij, fun hjt => ?_⟩
        subst hjt
        have := hj.ow i hi _ hij
        rw [hT] at this
        rw [h2, testBit_clrb, this]; simp; omega
    have hst : stepA s.n a e = { a with L := a.L ++ [e], last := 9, freed := a.freed ++ [e.at_] } := by simp [stepA, stepB, begA, k9]
    by_cases hz : clrb t.owned e.at_.toNat = 0
    · rw [if_pos hz] at hd
      have hov : overA { a with L := a.L ++ [e], last := 9, freed := a.freed ++ [e.at_] } = true := by simp [overA]; exact d3.1 hz
      cases hd
      refine keep _ hst (t' := { t with at_ := 0, owned := clrb t.owned e.at_.toNat, commits := t.commits + 1 }) (setThs _ _ rfl) (by simp [Sh.setTh, Sh.setSt]) (hclk0 k1 k5) hverF (howF (setThs _ _ rfl) rfl) (ThR.idle (Or.inl rfl) hov (by simp) (fun _ => by simp only; omega)) ?_ (by simp)
      rw [if_pos ⟨Or.inr k9, hov⟩]
    · rw [if_neg hz] at hd
      have hov : overA { a with L := a.L ++ [e], last := 9, freed := a.freed ++ [e.at_] } = false := by simp [overA]; exact fun h => hz (d3.2 h)
      cases hd
      refine keep _ hst (t' := { t with at_ := 6, owned := clrb t.owned e.at_.toNat }) (setThs _ _ rfl) (by simp [Sh.setTh, Sh.setSt]) (hclk0 k1 k5) hverF (howF (setThs _ _ rfl) rfl) ?_ (by rw [if_neg (by rw [hov]; simp)]; simp) (fun _ _ => by rw [hbv0 k5]; exact hbv (by omega) (by omega))
      refine ⟨by rw [hov]; simp, by simp, by simp, by simp, by simp, by simp, by simp, by simp, by simp, by simp, by simp, by simp, fun _ _ => hRV (by omega) (by omega), by simp, fun _ _ => by simpa using d2, fun _ _ => hRB (by omega) (by omega), fun _ _ => hRN (by omega) (by omega), fun _ _ => hCL (by omega) (by omega), by simp, by simp, by simp, by simp, by simp, by simp, fun _ _ => hWV (by omega) (by omega), fun _ _ _ => hwhy, by simp⟩
  rw [if_neg k9] at hd
  by_cases k10 : e.kind = 10
  · rw [if_pos k10] at hd
    unfold abortS at hd; split at hd
    case isFalse => cases hd
    rename_i hc
    have hat14 : 1 ≤ t.at_ ∧ t.at_ ≤ 4 ∧ (e.why = 6 → t.at_ = 3) := by
      unfold fitsS at hc
      (repeat' split at hc) <;> simp only [Bool.and_eq_true, decide_eq_true_eq, Bool.false_eq_true] at hc <;> omega
    have hf := hF0 (by omega) (by omega)
    have hob := hOB (by omega) (by omega)
    have hob' : BitsL t.owned a.locked := by rw [hf] at hob; simpa using hob
    have hst : stepA s.n a e = { a with L := a.L ++ [e], last := 10, why := e.why } := by simp [stepA, stepB, begA, k10]
    by_cases hz : t.owned = 0
    · rw [if_pos hz] at hd
      have hl0 := hob'.zero_iff.1 hz
      have hov : overA { a with L := a.L ++ [e], last := 10, why := e.why } = true := by simp [overA, hl0]
      cases hd
      refine keep0 _ hst (t' := { t with at_ := 0, full := decide (e.why = 6) }) (setThs _ _ rfl) rfl (hclk0 k1 k5) (hver0 k2 k9 fun _ _ => rfl) (by omega) (by omega) (by omega) (fun b hb => hb) (ThR.idle (Or.inl rfl) hov (by simp) (fun _ h6 => ht.busy (Or.inl (hat14.2.2 h6)) hz)) (by simp [k10]) (by simp)
    · rw [if_neg hz] at hd
      have hl0 := hob'.ne.1 hz
      have hov : overA { a with L := a.L ++ [e], last := 10, why := e.why } = false := by simp [overA, hl0]
      cases hd
      refine keep0 _ hst (t' := { t with at_ := 7, full := decide (e.why = 6) }) (setThs _ _ rfl) rfl (hclk0 k1 k5) (hver0 k2 k9 fun _ _ => rfl) (by omega) (by omega) (by omega) (fun b hb => hb) ?_ (by simp [k10]) (by simp)
      refine ⟨by rw [hov]; simp, by simp, by simp, by simp, by simp, by simp, by simp, by simp, by simp, by simp, by simp, by simp, fun _ _ => hRV (by omega) (by omega), by simp, fun _ _ => hob, fun _ _ => hRB (by omega) (by omega), fun _ _ => hRN (by omega) (by omega), fun _ _ => hCL (by omega) (by omega), by simp, by simp, by simp, by simp, by simp, by simp, by simp, by simp, by simp⟩
  rw [if_neg k10] at hd
  by_cases k11 : e.kind = 11
  · rw [if_pos k11] at hd
    unfold undoS at hd; split at hd
    case isFalse => cases hd
    rename_i hc
    have := hc.1
    obtain ⟨hs1, hs2⟩ := hatS k3 k8
    obtain ⟨d1, d2, d3⟩ := hdrop (by omega) (by omega) (by omega) hc.2
    have hw7 := hW7 hc.1
    have hverF : ∀ i, i < s.sts.length → ((s.sts.set e.at_.toNat (-1, s.ver e.at_)).getD i (-1, 0)).2 = stV s i := fun i hi => by
      by_cases hi2 : e.at_.toNat = i
      · subst hi2; rw [getD_set_eq _ _ _ _ hs2]; rfl
      · rw [getD_set_ne _ _ _ _ _ hi2]; rfl
    have howF : ∀ {t' : Th}, s'.ths = s.ths.set th t' → t'.owned = clrb t.owned e.at_.toNat → ∀ i, i < s.sts.length → ∀ j : Nat, stO s' i = (j : Int) → (s'.ths.getD j Th.zero).owned.testBit i = true := fun {t'} h1 h2 => ow_keep hlt h1 hj.ow fun i hi j hij => by
      rw [(hown1.2.1 (Or.inr k11)).2.2 i] at hij
      by_cases hi2 : i = e.at_.toNat
      · rw [if_pos hi2] at hij; omega
      · rw [if_neg hi2] at hij
        refine ⟨fun _ => hij, fun hjt => ?_⟩
        subst hjt
        have := hj.ow i hi _ hij
        rw [hT] at this
        rw [h2, testBit_clrb, this]; simp; omega
    have hst : stepA s.n a e = { a with L := a.L ++ [e], last := 11, freed := a.freed ++ [e.at_] } := by simp [stepA, stepB, begA, k11]
    by_cases hz : clrb t.owned e.at_.toNat = 0
    · rw [if_pos hz] at hd
      have hov : overA { a with L := a.L ++ [e], last := 11, freed := a.freed ++ [e.at_] } = true := by simp [overA]; exact d3.1 hz
      cases hd
      refine keep _ hst (t' := { t with at_ := if t.full = true then 9 else 0, owned := clrb t.owned e.at_.toNat }) (setThs _ _ rfl) (by simp [Sh.setTh, Sh.setSt]) (hclk0 k1 k5) (hver0 k2 k9 hverF) (howF (setThs _ _ rfl) rfl) ?_ (by simp [k11]) (by simp only; split <;> omega)
      refine ThR.idle (by simp only; split <;> simp) hov (fun h9 => ?_) (fun h9 => ?_)
      · simp only at h9 ⊢
        by_cases hfu : t.full = true
        · exact hw7.2 hfu
        · rw [if_neg hfu] at h9; omega
      · simp only at h9 ⊢
        by_cases hfu : t.full = true
        · rw [if_pos hfu] at h9; omega
        · exact fun h6 => hfu (hw7.1 h6)
    · rw [if_neg hz] at hd
      have hov : overA { a with L := a.L ++ [e], last := 11, freed := a.freed ++ [e.at_] } = false := by simp [overA]; exact fun h => hz (d3.2 h)
      cases hd
      refine keep _ hst (t' := { t with at_ := 7, owned := clrb t.owned e.at_.toNat }) (setThs _ _ rfl) (by simp [Sh.setTh, Sh.setSt]) (hclk0 k1 k5) (hver0 k2 k9 hverF) (howF (setThs _ _ rfl) rfl) ?_ (by simp [k11]) (by simp)
      refine ⟨by rw [hov]; simp, by simp, by simp, by simp, by simp, by simp, by simp, by simp, by simp, by simp, by simp, by simp, fun _ _ => hRV (by omega) (by omega), by simp, fun _ _ => by simpa using d2, fun _ _ => hRB (by omega) (by omega), fun _ _ => hRN (by omega) (by omega), fun _ _ => hCL (by omega) (by omega), by simp, by simp, by simp, by simp, by simp, by simp, by simp, by simp, fun _ => hw7⟩
  rw [if_neg k11] at hd
  by_cases k12 : e.kind = 12
  · rw [if_pos k12] at hd
    unfold waitS at hd; split at hd
    case isFalse => cases hd
    rename_i hc
    cases hd
    refine keep0 { a with L := a.L ++ [e], last := 12 } (by simp [stepA, stepB, begA, k12]) (t' := { t with at_ := 8 }) (setThs _ _ rfl) rfl (hclk0 k1 k5) (hver0 k2 k9 fun _ _ => rfl) (by omega) (by omega) (by omega) (fun b hb => hb) ?_ (by simp [k12]) (by simp)
    refine ⟨by simp [overA], by simp, by simp, by simp, by simp, by simp, by simp, by simp, by simp, by simp, by simp, by simp, fun _ _ => hRV (by omega) (by omega), by simp, fun _ _ => hOB (by omega) (by omega), fun _ _ => hRB (by omega) (by omega), fun _ _ => hRN (by omega) (by omega), fun _ _ => hCL (by omega) (by omega), by simp, by simp, by simp, by simp, by simp, by simp, by simp, fun _ _ _ => hWY (by omega) (by omega) (by omega), by simp⟩
  rw [if_neg k12] at hd
  unfold wakeS at hd; split at hd
  case isFalse => cases hd
  rename_i hc
  have := hc.1
  have k13 : e.kind = 13 := by omega
  cases hd
  refine keep0 { a with L := a.L ++ [e], last := 13 } (by simp [stepA, stepB, begA, k13]) (t' := { t with at_ := 0 }) (setThs _ _ rfl) rfl (hclk0 k1 k5) (hver0 k2 k9 fun _ _ => rfl) (by omega) (by omega) (by omega) (fun b hb => hb) (ThR.idle (Or.inl rfl) (by simp [overA]) (by simp) (fun _ => by have := hWY (by omega) (by omega) (by omega); simp only; omega)) (by simp [k13]) (by simp)
theorem stepS_same {s s' : Sh} {e : Ev} (h : stepS s e = some s') : s'.ths.length = s.ths.length ∧ s'.sts.length = s.sts.length ∧ s'.vars = s.vars := by
  unfold stepS at h
  split at h
  case isFalse => cases h
  unfold doesS at h
  by_cases k1 : e.kind = 1
  · rw [if_pos k1] at h; unfold beginS at h; split at h
    all_goals first | (have h := Option.some.inj h; subst h; simp [Sh.setTh, Sh.setSt]; done) | (cases h)
  rw [if_neg k1] at h
  by_cases k2 : e.kind = 2
  · rw [if_pos k2] at h; unfold lookS at h; split at h
    all_goals first | (have h := Option.some.inj h; subst h; simp [Sh.setTh, Sh.setSt]; done) | (cases h)
  rw [if_neg k2] at h
  by_cases k3 : e.kind = 3
  · rw [if_pos k3] at h; unfold loadS at h; split at h
    all_goals first | (have h := Option.some.inj h; subst h; simp [Sh.setTh, Sh.setSt]; done) | (cases h)
  rw [if_neg k3] at h
  by_cases k4 : e.kind = 4
  · rw [if_pos k4] at h; unfold lockS at h; split at h
    all_goals first | (have h := Option.some.inj h; subst h; simp [Sh.setTh, Sh.setSt]; done) | (cases h)
  rw [if_neg k4] at h
  by_cases k5 : e.kind = 5
  · rw [if_pos k5] at h; unfold bumpS at h; split at h
    all_goals first | (have h := Option.some.inj h; subst h; simp [Sh.setTh, Sh.setSt]; done) | (cases h)
  rw [if_neg k5] at h
  by_cases k6 : e.kind = 6
  · rw [if_pos k6] at h; unfold checkS at h; split at h
    all_goals first | (have h := Option.some.inj h; subst h; simp [Sh.setTh, Sh.setSt]; done) | (cases h)
  rw [if_neg k6] at h
  by_cases k7 : e.kind = 7
  · rw [if_pos k7] at h; unfold commitS at h; split at h
    · first | (have h := Option.some.inj h; subst h; simp [Sh.setTh, Sh.setSt]; done) | (cases h)
    · split at h <;> first | (have h := Option.some.inj h; subst h; simp [Sh.setTh, Sh.setSt]; done) | (cases h)
  rw [if_neg k7] at h
  by_cases k8 : e.kind = 8
  · rw [if_pos k8] at h; unfold storeS at h; split at h
    all_goals first | (have h := Option.some.inj h; subst h; simp [Sh.setTh, Sh.setSt]; done) | (cases h)
  rw [if_neg k8] at h
  by_cases k9 : e.kind = 9
  · rw [if_pos k9] at h; unfold freedS at h; split at h
    all_goals first | (have h := Option.some.inj h; subst h; simp [Sh.setTh, Sh.setSt]; done) | (cases h)
  rw [if_neg k9] at h
  by_cases k10 : e.kind = 10
  · rw [if_pos k10] at h; unfold abortS at h; split at h
    all_goals first | (have h := Option.some.inj h; subst h; simp [Sh.setTh, Sh.setSt]; done) | (cases h)
  rw [if_neg k10] at h
  by_cases k11 : e.kind = 11
  · rw [if_pos k11] at h; unfold undoS at h; split at h
    all_goals first | (have h := Option.some.inj h; subst h; simp [Sh.setTh, Sh.setSt]; done) | (cases h)
  rw [if_neg k11] at h
  by_cases k12 : e.kind = 12
  · rw [if_pos k12] at h; unfold waitS at h; split at h
    all_goals first | (have h := Option.some.inj h; subst h; simp [Sh.setTh, Sh.setSt]; done) | (cases h)
  rw [if_neg k12] at h
  unfold wakeS at h; split at h <;> first | (have h := Option.some.inj h; subst h; simp [Sh.setTh, Sh.setSt]; done) | (cases h)
/-- Behind what came the document's checker may look at what it looks at. -/
theorem good_new {T V S : Int} (h : sizeOk T V S = true) {r : List Ev} {s : Sh} (hr : runS (newS T V S) r.reverse = some s) : Wf s ∧ RefI s r ∧ (s.ths.length : Int) = T ∧ s.n = S ∧ s.vars = V := by
  have key : ∀ (r : List Ev) (s : Sh), runS (newS T V S) r.reverse = some s → Wf s ∧ RefI s r ∧ (s.ths.length : Int) = T ∧ s.n = S ∧ s.vars = V := by
    intro r
    induction r with
    | nil =>
      intro s hr
      cases hr
      have h' := h
      unfold sizeOk at h'
      rw [decide_eq_true_eq] at h'
      exact ⟨newS_wf h, RefI.new T V S, by simp [newS]; omega, by simp [newS, Sh.n]; omega, rfl⟩
    | cons e r ih =>
      intro s hr
      rw [List.reverse_cons, runS_snoc] at hr
      cases hq : runS (newS T V S) r.reverse with
      | none => rw [hq] at hr; cases hr
      | some q =>
        rw [hq] at hr
        have hr : stepS q e = some s := hr
        obtain ⟨h1, h2, h3, h4, h5⟩ := ih q hq
        obtain ⟨g1, g2, g3⟩ := stepS_same hr
        exact ⟨stepS_wf h1 hr, ref_step h1 h2 hr, by rw [g1]; exact h3, by rw [← h4]; unfold Sh.n; rw [g2], by rw [g3]; exact h5⟩
  exact key r s hr
end Go.Proofs.YtcddlnmcjmhbcaaDoor
