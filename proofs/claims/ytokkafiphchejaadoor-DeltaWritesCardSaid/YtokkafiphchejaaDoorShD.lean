/-
  Events and the checker of traces as data: what an event may be, the machine's step, and what follows of it. Nothing of the program.
-/
namespace Go.Proofs.YtokkafiphchejaaDoor
set_option linter.unusedVariables false

structure Ev where
  kind : Int
  th : Int
  tx : Int
  at_ : Int
  v : Int
  x : Int
  why : Int
theorem Ev.ext' {a b : Ev} (h1 : a.kind = b.kind) (h2 : a.th = b.th) (h3 : a.tx = b.tx) (h4 : a.at_ = b.at_) (h5 : a.v = b.v) (h6 : a.x = b.x) (h7 : a.why = b.why) : a = b := by
  cases a; cases b; simp only [Ev.mk.injEq]; exact ⟨h1, h2, h3, h4, h5, h6, h7⟩

/-- An event with what its Kind has alone. -/
def bareE (e : Ev) : Ev :=
  if e.kind = 1 then ⟨e.kind, e.th, e.tx, 0, e.v, 0, 0⟩
  else if e.kind = 2 then ⟨e.kind, e.th, 0, e.at_, e.v, 0, 0⟩
  else if e.kind = 3 ∨ e.kind = 8 then ⟨e.kind, e.th, 0, e.at_, 0, e.x, 0⟩
  else if e.kind = 4 ∨ e.kind = 6 ∨ e.kind = 9 ∨ e.kind = 11 then ⟨e.kind, e.th, 0, e.at_, 0, 0, 0⟩
  else if e.kind = 5 ∨ e.kind = 7 then ⟨e.kind, e.th, 0, 0, e.v, 0, 0⟩
  else if e.kind = 10 then ⟨e.kind, e.th, 0, e.at_, 0, 0, e.why⟩
  else ⟨e.kind, e.th, 0, 0, 0, 0, 0⟩
def sizesB (T V S : Int) : Bool := decide (1 ≤ T ∧ T ≤ 6 ∧ 1 ≤ V ∧ V ≤ 32 ∧ 1 ≤ S ∧ S ≤ V)
def placesE (e : Ev) (V S : Int) : Int := if e.kind = 3 ∨ e.kind = 8 then V else if e.kind = 10 ∧ e.why = 6 then 1 else S
def leastV (e : Ev) : Int := if e.kind = 5 then 1 else 0
/-- May an event be, over so many threads, variables, stripes? -/
def mayE (e : Ev) (T V S : Int) : Bool :=
  sizesB T V S && decide (1 ≤ e.kind ∧ e.kind ≤ 13 ∧ (e.kind = 10 → 1 ≤ e.why ∧ e.why ≤ 6) ∧ 0 ≤ e.th ∧ e.th < T ∧ 0 ≤ e.tx ∧ e.tx ≤ 5 ∧ leastV e ≤ e.v ∧ e.v ≤ 1099511627776 ∧ 0 ≤ e.at_ ∧ e.at_ < placesE e V S) &&
    decide (e.kind = (bareE e).kind ∧ e.th = (bareE e).th ∧ e.tx = (bareE e).tx ∧ e.at_ = (bareE e).at_ ∧ e.v = (bareE e).v ∧ e.x = (bareE e).x ∧ e.why = (bareE e).why)

structure Th where
  at_ : Int
  commits : Int
  rv : Int
  wv : Int
  stripe : Int
  v : Int
  read : Nat
  owned : Nat
  stored : Nat
  check : Nat
  locked : Int
  var : Int
  full : Bool
def Th.zero : Th := ⟨0, 0, 0, 0, 0, 0, 0, 0, 0, 0, 0, 0, false⟩
structure Sh where
  vars : Int
  clock : Int
  ths : List Th
  sts : List (Int × Int)

def setb (m s : Nat) : Nat := m ||| 2 ^ s
def clrb (m s : Nat) : Nat := m ^^^ (m &&& 2 ^ s)
/-- The least bit; 32: there is none. -/
def leastb (m : Nat) : Nat := ((List.range 32).find? fun i => m.testBit i).getD 32

theorem testBit_setb (m s i : Nat) : (setb m s).testBit i = (m.testBit i || decide (s = i)) := by
  unfold setb; rw [Nat.testBit_or, Nat.testBit_two_pow]
theorem testBit_clrb (m s i : Nat) : (clrb m s).testBit i = (m.testBit i && !decide (s = i)) := by
  unfold clrb; rw [Nat.testBit_xor, Nat.testBit_and, Nat.testBit_two_pow]
  cases m.testBit i <;> cases decide (s = i) <;> rfl
theorem setb_lt {m s : Nat} (hm : m < 4294967296) (hs : s < 32) : setb m s < 4294967296 := by
  have h2 : 2 ^ s < 2 ^ 32 := Nat.pow_lt_pow_right (by omega) hs
  exact Nat.or_lt_two_pow (n := 32) hm h2
theorem clrb_lt {m s : Nat} (hm : m < 4294967296) : clrb m s < 4294967296 :=
  Nat.xor_lt_two_pow (n := 32) hm (Nat.lt_of_le_of_lt Nat.and_le_left hm)
theorem leastb_le (m : Nat) : leastb m ≤ 32 := by
  unfold leastb
  cases h : (List.range 32).find? fun i => m.testBit i with
  | none => simp
  | some i =>
    have := List.mem_range.1 (List.mem_of_find?_eq_some h)
    simp only [Option.getD_some]; omega
theorem leastb_some {m : Nat} (h : leastb m < 32) : m.testBit (leastb m) = true := by
  unfold leastb at h ⊢
  cases hf : (List.range 32).find? fun i => m.testBit i with
  | none => rw [hf] at h; simp at h
  | some i => simpa using List.find?_some hf
theorem leastb_min {m i : Nat} (h : m.testBit i = true) (hi : i < 32) : leastb m ≤ i := by
  unfold leastb
  cases hf : (List.range 32).find? fun i => m.testBit i with
  | none =>
    have := List.find?_eq_none.1 hf i (List.mem_range.2 hi)
    simp [h] at this
  | some j =>
    simp only [Option.getD_some]
    rcases Nat.lt_or_ge i j with hlt | hge
    · have := List.find?_range_eq_some.1 hf
      have h2 := this.2.2 i hlt
      simp [h] at h2
    · exact hge
theorem zero_of_testBit {m : Nat} (hm : m < 4294967296) (h : ∀ i, i < 32 → m.testBit i = false) : m = 0 := by
  apply Nat.eq_of_testBit_eq
  intro i
  rw [Nat.zero_testBit]
  rcases Nat.lt_or_ge i 32 with hi | hi
  · exact h i hi
  · exact Nat.testBit_lt_two_pow (Nat.lt_of_lt_of_le (show m < 2 ^ 32 from hm) (Nat.pow_le_pow_right (by omega) hi))

def Sh.own (s : Sh) (i : Int) : Int := (s.sts.getD i.toNat (-1, 0)).1
def Sh.ver (s : Sh) (i : Int) : Int := (s.sts.getD i.toNat (-1, 0)).2
def Sh.setSt (s : Sh) (i : Int) (p : Int × Int) : Sh := { s with sts := s.sts.set i.toNat p }
def Sh.setTh (s : Sh) (i : Int) (t : Th) : Sh := { s with ths := s.ths.set i.toNat t }
def Sh.th (s : Sh) (i : Int) : Th := s.ths.getD i.toNat Th.zero
def Sh.n (s : Sh) : Int := s.sts.length
/-- Another thread owns a stripe. -/
def Sh.oth (s : Sh) (i th : Int) : Bool := decide (s.own i ≠ -1 ∧ s.own i ≠ th)

def beginS (s : Sh) (t : Th) (e : Ev) : Option Sh :=
  if t.at_ = 0 ∧ e.tx = t.commits ∧ s.clock ≤ e.v then some ({ s with clock := e.v }.setTh e.th ⟨1, t.commits, e.v, 0, 0, 0, 0, 0, 0, 0, -1, -1, false⟩) else none
def lookS (s : Sh) (t : Th) (e : Ev) : Option Sh :=
  if t.at_ = 1 ∧ s.own e.at_ = -1 ∧ s.ver e.at_ ≤ e.v ∧ e.v ≤ t.rv then some ((s.setSt e.at_ (-1, e.v)).setTh e.th { t with at_ := 2, stripe := e.at_, v := e.v }) else none
def loadS (s : Sh) (t : Th) (e : Ev) : Option Sh :=
  if t.at_ = 2 ∧ e.at_ % s.n = t.stripe ∧ s.own t.stripe = -1 ∧ s.ver t.stripe = t.v then some (s.setTh e.th { t with at_ := 1, read := setb t.read t.stripe.toNat }) else none
def lockS (s : Sh) (t : Th) (e : Ev) : Option Sh :=
  if (t.at_ = 1 ∨ t.at_ = 3) ∧ t.locked < e.at_ ∧ s.own e.at_ = -1 then some ((s.setSt e.at_ (e.th, s.ver e.at_)).setTh e.th { t with at_ := 3, locked := e.at_, owned := setb t.owned e.at_.toNat }) else none
def bumpS (s : Sh) (t : Th) (e : Ev) : Option Sh :=
  if t.at_ = 3 ∧ s.clock < e.v then some ({ s with clock := e.v }.setTh e.th { t with at_ := 4, wv := e.v, check := if e.v = t.rv + 1 then t.check else t.read }) else none
def checkS (s : Sh) (t : Th) (e : Ev) : Option Sh :=
  if t.at_ = 4 ∧ e.at_ = leastb t.check ∧ s.oth e.at_ e.th = false ∧ s.ver e.at_ ≤ t.rv then some (s.setTh e.th { t with check := clrb t.check e.at_.toNat }) else none
def commitS (s : Sh) (t : Th) (e : Ev) : Option Sh :=
  if e.v = 0 ∧ t.at_ = 1 then some (s.setTh e.th { t with at_ := 0, commits := t.commits + 1 })
  else if e.v ≠ 0 ∧ t.at_ = 4 ∧ t.check = 0 ∧ e.v = t.wv then some (s.setTh e.th { t with at_ := 5 }) else none
def storeS (s : Sh) (t : Th) (e : Ev) : Option Sh :=
  if t.at_ = 5 ∧ t.var < e.at_ ∧ t.owned.testBit (e.at_ % s.n).toNat = true then some (s.setTh e.th { t with var := e.at_, stored := setb t.stored (e.at_ % s.n).toNat }) else none
def freedS (s : Sh) (t : Th) (e : Ev) : Option Sh :=
  if (t.at_ = 6 ∨ (t.at_ = 5 ∧ t.stored = t.owned)) ∧ e.at_ = leastb t.owned then
    some ((s.setSt e.at_ (-1, t.wv)).setTh e.th (if clrb t.owned e.at_.toNat = 0 then { t with at_ := 0, owned := clrb t.owned e.at_.toNat, commits := t.commits + 1 } else { t with at_ := 6, owned := clrb t.owned e.at_.toNat }))
  else none
def fitsS (s : Sh) (t : Th) (e : Ev) : Bool :=
  if e.why = 1 then decide (t.at_ = 1) && s.oth e.at_ e.th
  else if e.why = 2 then decide (t.at_ = 1 ∧ s.own e.at_ = -1 ∧ t.rv < s.ver e.at_)
  else if e.why = 3 then decide (t.at_ = 2 ∧ e.at_ = t.stripe ∧ ¬ (s.own t.stripe = -1 ∧ s.ver t.stripe = t.v))
  else if e.why = 4 then decide ((t.at_ = 1 ∨ t.at_ = 3) ∧ t.locked < e.at_) && s.oth e.at_ e.th
  else if e.why = 5 then decide (t.at_ = 4 ∧ e.at_ = leastb t.check) && (s.oth e.at_ e.th || decide (t.rv < s.ver e.at_))
  else if e.why = 6 then decide (t.at_ = 3)
  else false
def abortS (s : Sh) (t : Th) (e : Ev) : Option Sh :=
  if fitsS s t e = true then some (s.setTh e.th { t with at_ := if t.owned = 0 then 0 else 7, full := decide (e.why = 6) }) else none
def undoS (s : Sh) (t : Th) (e : Ev) : Option Sh :=
  if t.at_ = 7 ∧ e.at_ = leastb t.owned then
    some ((s.setSt e.at_ (-1, s.ver e.at_)).setTh e.th { t with at_ := if clrb t.owned e.at_.toNat = 0 then (if t.full then 9 else 0) else 7, owned := clrb t.owned e.at_.toNat })
  else none
def waitS (s : Sh) (t : Th) (e : Ev) : Option Sh :=
  if t.at_ = 1 then some (s.setTh e.th { t with at_ := 8 }) else none
def wakesS (s : Sh) (t : Th) : Bool := (List.range s.sts.length).any fun i => t.read.testBit i && decide (s.own i = -1 ∧ t.rv < s.ver i)
def wakeS (s : Sh) (t : Th) (e : Ev) : Option Sh :=
  if t.at_ = 8 ∧ wakesS s t = true then some (s.setTh e.th { t with at_ := 0 }) else none

def doesS (s : Sh) (t : Th) (e : Ev) : Option Sh :=
  if e.kind = 1 then beginS s t e else if e.kind = 2 then lookS s t e else if e.kind = 3 then loadS s t e else if e.kind = 4 then lockS s t e
  else if e.kind = 5 then bumpS s t e else if e.kind = 6 then checkS s t e else if e.kind = 7 then commitS s t e else if e.kind = 8 then storeS s t e
  else if e.kind = 9 then freedS s t e else if e.kind = 10 then abortS s t e else if e.kind = 11 then undoS s t e else if e.kind = 12 then waitS s t e
  else wakeS s t e
def stepS (s : Sh) (e : Ev) : Option Sh := if mayE e s.ths.length s.vars s.n = true then doesS s (s.th e.th) e else none
/-- A run over events: where it stops, and behind what. -/
def runS (s : Sh) : List Ev → Option Sh
  | [] => some s
  | e :: l => match stepS s e with
    | some s' => runS s' l
    | none => none
/-- How many events come. -/
def comesS (s : Sh) : List Ev → Nat
  | [] => 0
  | e :: l => match stepS s e with
    | some s' => comesS s' l + 1
    | none => 0
def newS (T V S : Int) : Sh := ⟨V, 0, List.replicate T.toNat Th.zero, List.replicate S.toNat (-1, 0)⟩
def sizeOk (T V S : Int) : Bool := decide (0 ≤ T ∧ T ≤ 6 ∧ 1 ≤ V ∧ V ≤ 32 ∧ 1 ≤ S ∧ S ≤ V)
/-- What Check comes to: the place, and the error. -/
def checkT (T V S : Int) (l : List Ev) : Int × Int :=
  if sizeOk T V S = false then (0, 1) else if 1048576 < l.length then (0, 40) else
    if comesS (newS T V S) l < l.length then (((comesS (newS T V S) l : Nat) : Int), 4) else (((l.length : Nat) : Int), 0)
def fineT (T V S : Int) (l : List Ev) : Bool := decide (checkT T V S l = (((l.length : Nat) : Int), 0))

theorem comesS_le (l : List Ev) : ∀ s, comesS s l ≤ l.length := by
  induction l with
  | nil => intro s; simp [comesS]
  | cons e l ih =>
    intro s
    unfold comesS
    cases h : stepS s e with
    | none => simp
    | some s' => simp only [List.length_cons]; have := ih s'; omega
theorem runS_append (l m : List Ev) : ∀ s, runS s (l ++ m) = (runS s l).bind fun s' => runS s' m := by
  induction l with
  | nil => intro s; rfl
  | cons e l ih =>
    intro s
    simp only [List.cons_append, runS]
    cases stepS s e with
    | none => rfl
    | some s' => exact ih s'
theorem runS_snoc (l : List Ev) (e : Ev) (s : Sh) : runS s (l ++ [e]) = (runS s l).bind fun s' => stepS s' e := by
  rw [runS_append]
  cases runS s l with
  | none => rfl
  | some s' =>
    simp only [Option.bind_some, runS]
    cases stepS s' e <;> rfl
theorem comes_iff (l : List Ev) : ∀ s, comesS s l = l.length ↔ (runS s l).isSome = true := by
  induction l with
  | nil => intro s; simp [comesS, runS]
  | cons e l ih =>
    intro s
    unfold comesS runS
    cases h : stepS s e with
    | none => simp
    | some s' => simp only [List.length_cons, Nat.add_right_cancel_iff]; exact ih s'
theorem runS_take {l : List Ev} {k : Nat} {s s' : Sh} (h : runS s l = some s') : ∃ r, runS s (l.take k) = some r := by
  have h1 : runS s (l.take k ++ l.drop k) = some s' := by rw [List.take_append_drop]; exact h
  rw [runS_append] at h1
  cases hr : runS s (l.take k) with
  | none => rw [hr] at h1; cases h1
  | some r => exact ⟨r, rfl⟩
/-- The state behind k events. -/
theorem runS_step {l : List Ev} {k : Nat} {s s' r : Sh} (h : runS s l = some s') (hk : k < l.length) (hr : runS s (l.take k) = some r) : ∃ r', stepS r l[k] = some r' ∧ runS s (l.take (k + 1)) = some r' := by
  obtain ⟨r', h1⟩ := runS_take (k := k + 1) h
  have e : l.take (k + 1) = l.take k ++ [l[k]] := by
    rw [List.take_succ_eq_append_getElem hk]
  have h2 := h1
  rw [e, runS_snoc, hr] at h2
  exact ⟨r', h2, h1⟩
theorem comes_take (l : List Ev) : ∀ (s : Sh) (k : Nat), comesS s (l.take k) = min k (comesS s l) := by
  induction l with
  | nil => intro s k; simp [comesS]
  | cons e l ih =>
    intro s k
    cases k with
    | zero => simp [comesS]
    | succ k =>
      simp only [List.take_succ_cons, comesS]
      cases h : stepS s e with
      | none => simp
      | some s' => simp only [ih s' k]; omega
end Go.Proofs.YtokkafiphchejaaDoor
