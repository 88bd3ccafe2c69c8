/-
  Attempts as data: what a history of events is, step by step; and what holds of it beside the checker's machine. Nothing of the program.
-/
import Derived.Test.YtcdgfnocjnampaaShP
namespace Go.Proofs.Ytcdgfnocjnampaa
set_option linter.unusedVariables false
set_option linter.unusedSimpArgs false
set_option linter.unusedVariables false

/-! ### Counting bits -/
def cntb (m : Nat) : Nat := (List.range 32).countP fun i => m.testBit i
theorem countP_or (p : Nat → Bool) (s : Nat) (h : p s = false) : ∀ n, (List.range n).countP (fun i => p i || decide (s = i)) = (List.range n).countP p + if s < n then 1 else 0
  | 0 => by simp
  | n + 1 => by
    rw [List.range_succ, List.countP_append, List.countP_append, countP_or p s h n]
    simp only [List.countP_cons, List.countP_nil]
    by_cases he : s = n
    · subst he
      rw [h]
      simp
    · simp only [he, decide_false, Bool.or_false]
      by_cases hl : s < n
      · rw [if_pos hl, if_pos (show s < n + 1 by omega)]; omega
      · rw [if_neg hl, if_neg (show ¬ s < n + 1 by omega)]; omega
theorem countP_and (p : Nat → Bool) (s : Nat) (h : p s = true) : ∀ n, (List.range n).countP (fun i => p i && !decide (s = i)) + (if s < n then 1 else 0) = (List.range n).countP p
  | 0 => by simp
  | n + 1 => by
    have ih := countP_and p s h n
    rw [List.range_succ, List.countP_append, List.countP_append]
    simp only [List.countP_cons, List.countP_nil]
    by_cases he : s = n
    · subst he
      rw [h]
      rw [if_neg (by omega)] at ih
      simp
      omega
    · simp only [he, decide_false, Bool.not_false, Bool.and_true]
      by_cases hl : s < n
      · rw [if_pos hl] at ih; rw [if_pos (show s < n + 1 by omega)]; omega
      · rw [if_neg hl] at ih; rw [if_neg (show ¬ s < n + 1 by omega)]; omega
theorem cntb_set {m s : Nat} (h : m.testBit s = false) (hs : s < 32) : cntb (setb m s) = cntb m + 1 := by
  unfold cntb
  simp only [testBit_setb]
  rw [countP_or (fun i => m.testBit i) s h 32, if_pos hs]
theorem cntb_clr {m s : Nat} (h : m.testBit s = true) (hs : s < 32) : cntb (clrb m s) + 1 = cntb m := by
  unfold cntb
  simp only [testBit_clrb]
  have := countP_and (fun i => m.testBit i) s h 32
  rw [if_pos hs] at this
  exact this
theorem cntb_zero {m : Nat} (hm : m < 4294967296) : cntb m = 0 ↔ m = 0 := by
  constructor
  · intro h
    unfold cntb at h
    rw [List.countP_eq_zero] at h
    refine zero_of_testBit hm fun i hi => ?_
    have := h i (List.mem_range.2 hi)
    simpa using this
  · rintro rfl
    unfold cntb
    rw [List.countP_eq_zero]
    intro i _
    simp

/-! ### Attempts -/
structure Att where
  th : Int
  tx : Int
  from_ : Int
  to_ : Int
  rv : Int
  wv : Int
  com : Bool
  reads : List (Int × Int)
  writes : List (Int × Int)
def Att.zero : Att := ⟨0, 0, 0, 0, 0, 0, false, [], []⟩
structure HS where
  last : Int → Nat
  out : List Att
  owned : List Int
def newA (e : Ev) (i : Int) : Att := ⟨e.th, e.tx, i, -1, e.v, 0, false, [], []⟩
/-- What an event (no Begin, no Wake) makes of its attempt. -/
def turnA (a : Att) (o : Int) (e : Ev) (i : Int) : Att :=
  if e.kind = 3 then { a with reads := a.reads ++ [(e.at_, e.x)] }
  else if e.kind = 8 then { a with writes := a.writes ++ [(e.at_, e.x)] }
  else if e.kind = 7 then { a with com := true, wv := e.v, to_ := if o = 0 then i else a.to_ }
  else if e.kind = 9 ∨ e.kind = 11 then { a with to_ := if o - 1 = 0 then i else a.to_ }
  else if e.kind = 10 then { a with to_ := if o = 0 then i else a.to_ }
  else if e.kind = 12 then { a with to_ := i }
  else a
def turnO (o : Int) (e : Ev) : Int := if e.kind = 4 then o + 1 else if e.kind = 9 ∨ e.kind = 11 then o - 1 else o
def updN (f : Int → Nat) (i : Int) (x : Nat) : Int → Nat := fun j => if j = i then x else f j
def stepH (h : HS) (i : Int) (e : Ev) : HS :=
  if e.kind = 1 then ⟨updN h.last e.th h.out.length, h.out ++ [newA e i], h.owned ++ [0]⟩
  else if e.kind = 13 then h
  else ⟨h.last, h.out.set (h.last e.th) (turnA (h.out.getD (h.last e.th) Att.zero) (h.owned.getD (h.last e.th) 0) e i), h.owned.set (h.last e.th) (turnO (h.owned.getD (h.last e.th) 0) e)⟩
/-- Of which attempt an event is; -1: of none. -/
def ofH (h : HS) (e : Ev) : Int := if e.kind = 1 then h.out.length else if e.kind = 13 then -1 else h.last e.th
def newH : HS := ⟨fun _ => 0, [], []⟩
def histF (h : HS) (i : Int) : List Ev → HS
  | [] => h
  | e :: l => histF (stepH h i e) (i + 1) l
def ofF (h : HS) (i : Int) : List Ev → List Int
  | [] => []
  | e :: l => ofH h e :: ofF (stepH h i e) (i + 1) l
theorem histF_snoc (e : Ev) : ∀ (l : List Ev) (h : HS) (i : Int), histF h i (l ++ [e]) = stepH (histF h i l) (i + l.length) e
  | [], h, i => by simp [histF]
  | x :: l, h, i => by
    show histF (stepH h i x) (i + 1) (l ++ [e]) = _
    rw [histF_snoc e l]
    simp only [List.length_cons]
    show _ = stepH (histF (stepH h i x) (i + 1) l) _ e
    congr 1
    omega
theorem ofF_snoc (e : Ev) : ∀ (l : List Ev) (h : HS) (i : Int), ofF h i (l ++ [e]) = ofF h i l ++ [ofH (histF h i l) e]
  | [], h, i => rfl
  | x :: l, h, i => by
    show ofH h x :: ofF (stepH h i x) (i + 1) (l ++ [e]) = _
    rw [ofF_snoc e l]
    rfl
theorem ofF_len : ∀ (l : List Ev) (h : HS) (i : Int), (ofF h i l).length = l.length
  | [], h, i => rfl
  | x :: l, h, i => by
    show (ofF (stepH h i x) (i + 1) l).length + 1 = _
    rw [ofF_len l]; rfl
def histT (l : List Ev) : HS := histF newH 0 l
def ofT (l : List Ev) : List Int := ofF newH 0 l
theorem histT_step {l : List Ev} {k : Nat} (hk : k < l.length) : histT (l.take (k + 1)) = stepH (histT (l.take k)) k l[k] := by
  have e : l.take (k + 1) = l.take k ++ [l[k]] := by rw [List.take_succ_eq_append_getElem hk]
  unfold histT
  rw [e, histF_snoc, List.length_take, Nat.min_eq_left (Nat.le_of_lt hk), Int.zero_add]
theorem ofT_step {l : List Ev} {k : Nat} (hk : k < l.length) : ofT (l.take (k + 1)) = ofT (l.take k) ++ [ofH (histT (l.take k)) l[k]] := by
  have e : l.take (k + 1) = l.take k ++ [l[k]] := by rw [List.take_succ_eq_append_getElem hk]
  unfold ofT histT
  rw [e, ofF_snoc]
end Go.Proofs.Ytcdgfnocjnampaa
