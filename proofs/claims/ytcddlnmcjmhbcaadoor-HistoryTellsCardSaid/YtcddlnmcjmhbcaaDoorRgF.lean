/-
  Joined texts: ShD ShI ShJ.
-/
/-
  Events and the checker of traces as data: what an event may be, the machine's step, and what follows of it. Nothing of the program.
-/
namespace Go.Proofs.YtcddlnmcjmhbcaaDoor
set_option linter.unusedVariables false

structure Ev where
  kind : Int
  th : Int
  tx : Int
  at_ : Int
  v : Int
  x : Int
  why : Int
theorem Ev.ext' {a b : Ev} (h1 : a.kind = b.kind) (h2 : a.th = b.th) (h3 : a.tx = b.tx) (h4 : a.at_ = b.at_) (h5 : a.v = b.v) (h6 : a.x = b.x) (h7 : a.why = b.why) : a = b := by
  cases a; cases b; simp only [Ev.mk.injEq]; exact ⟨h1, h2, h3, h4, h5, h6, h7⟩

/-- An event with what its Kind has alone. -/
def bareE (e : Ev) : Ev :=
  if e.kind = 1 then ⟨e.kind, e.th, e.tx, 0, e.v, 0, 0⟩
  else if e.kind = 2 then ⟨e.kind, e.th, 0, e.at_, e.v, 0, 0⟩
  else if e.kind = 3 ∨ e.kind = 8 then ⟨e.kind, e.th, 0, e.at_, 0, e.x, 0⟩
  else if e.kind = 4 ∨ e.kind = 6 ∨ e.kind = 9 ∨ e.kind = 11 then ⟨e.kind, e.th, 0, e.at_, 0, 0, 0⟩
  else if e.kind = 5 ∨ e.kind = 7 then ⟨e.kind, e.th, 0, 0, e.v, 0, 0⟩
  else if e.kind = 10 then ⟨e.kind, e.th, 0, e.at_, 0, 0, e.why⟩
  else ⟨e.kind, e.th, 0, 0, 0, 0, 0⟩
def sizesB (T V S : Int) : Bool := decide (1 ≤ T ∧ T ≤ 6 ∧ 1 ≤ V ∧ V ≤ 32 ∧ 1 ≤ S ∧ S ≤ V)
def placesE (e : Ev) (V S : Int) : Int := if e.kind = 3 ∨ e.kind = 8 then V else if e.kind = 10 ∧ e.why = 6 then 1 else S
def leastV (e : Ev) : Int := if e.kind = 5 then 1 else 0
/-- May an event be, over so many threads, variables, stripes? -/
def mayE (e : Ev) (T V S : Int) : Bool :=
  sizesB T V S && decide (1 ≤ e.kind ∧ e.kind ≤ 13 ∧ (e.kind = 10 → 1 ≤ e.why ∧ e.why ≤ 6) ∧ 0 ≤ e.th ∧ e.th < T ∧ 0 ≤ e.tx ∧ e.tx ≤ 5 ∧ leastV e ≤ e.v ∧ e.v ≤ 1099511627776 ∧ 0 ≤ e.at_ ∧ e.at_ < placesE e V S) &&
    decide (e.kind = (bareE e).kind ∧ e.th = (bareE e).th ∧ e.tx = (bareE e).tx ∧ e.at_ = (bareE e).at_ ∧ e.v = (bareE e).v ∧ e.x = (bareE e).x ∧ e.why = (bareE e).why)

structure Th where
  at_ : Int
  commits : Int
  rv : Int
  wv : Int
  stripe : Int
  v : Int
  read : Nat
  owned : Nat
  stored : Nat
  check : Nat
  locked : Int
  var : Int
  full : Bool
def Th.zero : Th := ⟨0, 0, 0, 0, 0, 0, 0, 0, 0, 0, 0, 0, false⟩
structure Sh where
  vars : Int
  clock : Int
  ths : List Th
  sts : List (Int × Int)

def setb (m s : Nat) : Nat := m ||| 2 ^ s
def clrb (m s : Nat) : Nat := m ^^^ (m &&& 2 ^ s)
/-- The least bit; 32: there is none. -/
def leastb (m : Nat) : Nat := ((List.range 32).find? fun i => m.testBit i).getD 32

theorem testBit_setb (m s i : Nat) : (setb m s).testBit i = (m.testBit i || decide (s = i)) := by
  unfold setb; rw [Nat.testBit_or, Nat.testBit_two_pow]
theorem testBit_clrb (m s i : Nat) : (clrb m s).testBit i = (m.testBit i && !decide (s = i)) := by
  unfold clrb; rw [Nat.testBit_xor, Nat.testBit_and, Nat.testBit_two_pow]
  cases m.testBit i <;> cases decide (s = i) <;> rfl
theorem setb_lt {m s : Nat} (hm : m < 4294967296) (hs : s < 32) : setb m s < 4294967296 := by
  have h2 : 2 ^ s < 2 ^ 32 := Nat.pow_lt_pow_right (by omega) hs
  exact Nat.or_lt_two_pow (n := 32) hm h2
theorem clrb_lt {m s : Nat} (hm : m < 4294967296) : clrb m s < 4294967296 :=
  Nat.xor_lt_two_pow (n := 32) hm (Nat.lt_of_le_of_lt Nat.and_le_left hm)
theorem leastb_some {m : Nat} (h : leastb m < 32) : m.testBit (leastb m) = true := by
  unfold leastb at h ⊢
  cases hf : (List.range 32).find? fun i => m.testBit i with
  | none => rw [hf] at h; simp at h
  | some i => simpa using List.find?_some hf
theorem leastb_min {m i : Nat} (h : m.testBit i = true) (hi : i < 32) : leastb m ≤ i := by
  unfold leastb
  cases hf : (List.range 32).find? fun i => m.testBit i with
  | none =>
    have := List.find?_eq_none.1 hf i (List.mem_range.2 hi)
    simp [h] at this
  | some j =>
    simp only [Option.getD_some]
    rcases Nat.lt_or_ge i j with hlt | hge
    · have := List.find?_range_eq_some.1 hf
      have h2 := this.2.2 i hlt
      simp [h] at h2
    · exact hge
theorem zero_of_testBit {m : Nat} (hm : m < 4294967296) (h : ∀ i, i < 32 → m.testBit i = false) : m = 0 := by
  apply Nat.eq_of_testBit_eq
  intro i
  rw [Nat.zero_testBit]
  rcases Nat.lt_or_ge i 32 with hi | hi
  · exact h i hi
  · exact Nat.testBit_lt_two_pow (Nat.lt_of_lt_of_le (show m < 2 ^ 32 from hm) (Nat.pow_le_pow_right (by omega) hi))

def Sh.own (s : Sh) (i : Int) : Int := (s.sts.getD i.toNat (-1, 0)).1
def Sh.ver (s : Sh) (i : Int) : Int := (s.sts.getD i.toNat (-1, 0)).2
def Sh.setSt (s : Sh) (i : Int) (p : Int × Int) : Sh := { s with sts := s.sts.set i.toNat p }
def Sh.setTh (s : Sh) (i : Int) (t : Th) : Sh := { s with ths := s.ths.set i.toNat t }
def Sh.th (s : Sh) (i : Int) : Th := s.ths.getD i.toNat Th.zero
def Sh.n (s : Sh) : Int := s.sts.length
/-- Another thread owns a stripe. -/
def Sh.oth (s : Sh) (i th : Int) : Bool := decide (s.own i ≠ -1 ∧ s.own i ≠ th)

def beginS (s : Sh) (t : Th) (e : Ev) : Option Sh :=
  if t.at_ = 0 ∧ e.tx = t.commits ∧ s.clock ≤ e.v then some ({ s with clock := e.v }.setTh e.th ⟨1, t.commits, e.v, 0, 0, 0, 0, 0, 0, 0, -1, -1, false⟩) else none
def lookS (s : Sh) (t : Th) (e : Ev) : Option Sh :=
  if t.at_ = 1 ∧ s.own e.at_ = -1 ∧ s.ver e.at_ ≤ e.v ∧ e.v ≤ t.rv then some ((s.setSt e.at_ (-1, e.v)).setTh e.th { t with at_ := 2, stripe := e.at_, v := e.v }) else none
def loadS (s : Sh) (t : Th) (e : Ev) : Option Sh :=
  if t.at_ = 2 ∧ e.at_ % s.n = t.stripe ∧ s.own t.stripe = -1 ∧ s.ver t.stripe = t.v then some (s.setTh e.th { t with at_ := 1, read := setb t.read t.stripe.toNat }) else none
def lockS (s : Sh) (t : Th) (e : Ev) : Option Sh :=
  if (t.at_ = 1 ∨ t.at_ = 3) ∧ t.locked < e.at_ ∧ s.own e.at_ = -1 then some ((s.setSt e.at_ (e.th, s.ver e.at_)).setTh e.th { t with at_ := 3, locked := e.at_, owned := setb t.owned e.at_.toNat }) else none
def bumpS (s : Sh) (t : Th) (e : Ev) : Option Sh :=
  if t.at_ = 3 ∧ s.clock < e.v then some ({ s with clock := e.v }.setTh e.th { t with at_ := 4, wv := e.v, check := if e.v = t.rv + 1 then t.check else t.read }) else none
def checkS (s : Sh) (t : Th) (e : Ev) : Option Sh :=
  if t.at_ = 4 ∧ e.at_ = leastb t.check ∧ s.oth e.at_ e.th = false ∧ s.ver e.at_ ≤ t.rv then some (s.setTh e.th { t with check := clrb t.check e.at_.toNat }) else none
def commitS (s : Sh) (t : Th) (e : Ev) : Option Sh :=
  if e.v = 0 ∧ t.at_ = 1 then some (s.setTh e.th { t with at_ := 0, commits := t.commits + 1 })
  else if e.v ≠ 0 ∧ t.at_ = 4 ∧ t.check = 0 ∧ e.v = t.wv then some (s.setTh e.th { t with at_ := 5 }) else none
def storeS (s : Sh) (t : Th) (e : Ev) : Option Sh :=
  if t.at_ = 5 ∧ t.var < e.at_ ∧ t.owned.testBit (e.at_ % s.n).toNat = true then some (s.setTh e.th { t with var := e.at_, stored := setb t.stored (e.at_ % s.n).toNat }) else none
def freedS (s : Sh) (t : Th) (e : Ev) : Option Sh :=
  if (t.at_ = 6 ∨ (t.at_ = 5 ∧ t.stored = t.owned)) ∧ e.at_ = leastb t.owned then
    some ((s.setSt e.at_ (-1, t.wv)).setTh e.th (if clrb t.owned e.at_.toNat = 0 then { t with at_ := 0, owned := clrb t.owned e.at_.toNat, commits := t.commits + 1 } else { t with at_ := 6, owned := clrb t.owned e.at_.toNat }))
  else none
def fitsS (s : Sh) (t : Th) (e : Ev) : Bool :=
  if e.why = 1 then decide (t.at_ = 1) && s.oth e.at_ e.th
  else if e.why = 2 then decide (t.at_ = 1 ∧ s.own e.at_ = -1 ∧ t.rv < s.ver e.at_)
  else if e.why = 3 then decide (t.at_ = 2 ∧ e.at_ = t.stripe ∧ ¬ (s.own t.stripe = -1 ∧ s.ver t.stripe = t.v))
  else if e.why = 4 then decide ((t.at_ = 1 ∨ t.at_ = 3) ∧ t.locked < e.at_) && s.oth e.at_ e.th
  else if e.why = 5 then decide (t.at_ = 4 ∧ e.at_ = leastb t.check) && (s.oth e.at_ e.th || decide (t.rv < s.ver e.at_))
  else if e.why = 6 then decide (t.at_ = 3)
  else false
def abortS (s : Sh) (t : Th) (e : Ev) : Option Sh :=
  if fitsS s t e = true then some (s.setTh e.th { t with at_ := if t.owned = 0 then 0 else 7, full := decide (e.why = 6) }) else none
def undoS (s : Sh) (t : Th) (e : Ev) : Option Sh :=
  if t.at_ = 7 ∧ e.at_ = leastb t.owned then
    some ((s.setSt e.at_ (-1, s.ver e.at_)).setTh e.th { t with at_ := if clrb t.owned e.at_.toNat = 0 then (if t.full then 9 else 0) else 7, owned := clrb t.owned e.at_.toNat })
  else none
def waitS (s : Sh) (t : Th) (e : Ev) : Option Sh :=
  if t.at_ = 1 then some (s.setTh e.th { t with at_ := 8 }) else none
def wakesS (s : Sh) (t : Th) : Bool := (List.range s.sts.length).any fun i => t.read.testBit i && decide (s.own i = -1 ∧ t.rv < s.ver i)
def wakeS (s : Sh) (t : Th) (e : Ev) : Option Sh :=
  if t.at_ = 8 ∧ wakesS s t = true then some (s.setTh e.th { t with at_ := 0 }) else none

def doesS (s : Sh) (t : Th) (e : Ev) : Option Sh :=
  if e.kind = 1 then beginS s t e else if e.kind = 2 then lookS s t e else if e.kind = 3 then loadS s t e else if e.kind = 4 then lockS s t e
  else if e.kind = 5 then bumpS s t e else if e.kind = 6 then checkS s t e else if e.kind = 7 then commitS s t e else if e.kind = 8 then storeS s t e
  else if e.kind = 9 then freedS s t e else if e.kind = 10 then abortS s t e else if e.kind = 11 then undoS s t e else if e.kind = 12 then waitS s t e
  else wakeS s t e
def stepS (s : Sh) (e : Ev) : Option Sh := if mayE e s.ths.length s.vars s.n = true then doesS s (s.th e.th) e else none
/-- A run over events: where it stops, and behind what. -/
def runS (s : Sh) : List Ev → Option Sh
  | [] => some s
  | e :: l => match stepS s e with
    | some s' => runS s' l
    | none => none
/-- How many events come. -/
def comesS (s : Sh) : List Ev → Nat
  | [] => 0
  | e :: l => match stepS s e with
    | some s' => comesS s' l + 1
    | none => 0
def newS (T V S : Int) : Sh := ⟨V, 0, List.replicate T.toNat Th.zero, List.replicate S.toNat (-1, 0)⟩
def sizeOk (T V S : Int) : Bool := decide (0 ≤ T ∧ T ≤ 6 ∧ 1 ≤ V ∧ V ≤ 32 ∧ 1 ≤ S ∧ S ≤ V)
/-- What Check comes to: the place, and the error. -/
def checkT (T V S : Int) (l : List Ev) : Int × Int :=
  if sizeOk T V S = false then (0, 1) else if 1048576 < l.length then (0, 40) else
    if comesS (newS T V S) l < l.length then (((comesS (newS T V S) l : Nat) : Int), 4) else (((l.length : Nat) : Int), 0)
theorem comesS_le (l : List Ev) : ∀ s, comesS s l ≤ l.length := by
  induction l with
  | nil => intro s; simp [comesS]
  | cons e l ih =>
    intro s
    unfold comesS
    cases h : stepS s e with
    | none => simp
    | some s' => simp only [List.length_cons]; have := ih s'; omega
theorem runS_append (l m : List Ev) : ∀ s, runS s (l ++ m) = (runS s l).bind fun s' => runS s' m := by
  induction l with
  | nil => intro s; rfl
  | cons e l ih =>
    intro s
    simp only [List.cons_append, runS]
    cases stepS s e with
    | none => rfl
    | some s' => exact ih s'
theorem runS_snoc (l : List Ev) (e : Ev) (s : Sh) : runS s (l ++ [e]) = (runS s l).bind fun s' => stepS s' e := by
  rw [runS_append]
  cases runS s l with
  | none => rfl
  | some s' =>
    simp only [Option.bind_some, runS]
    cases stepS s' e <;> rfl
theorem comes_iff (l : List Ev) : ∀ s, comesS s l = l.length ↔ (runS s l).isSome = true := by
  induction l with
  | nil => intro s; simp [comesS, runS]
  | cons e l ih =>
    intro s
    unfold comesS runS
    cases h : stepS s e with
    | none => simp
    | some s' => simp only [List.length_cons, Nat.add_right_cancel_iff]; exact ih s'
theorem runS_take {l : List Ev} {k : Nat} {s s' : Sh} (h : runS s l = some s') : ∃ r, runS s (l.take k) = some r := by
  have h1 : runS s (l.take k ++ l.drop k) = some s' := by rw [List.take_append_drop]; exact h
  rw [runS_append] at h1
  cases hr : runS s (l.take k) with
  | none => rw [hr] at h1; cases h1
  | some r => exact ⟨r, rfl⟩
/-- The state behind k events. -/
theorem runS_step {l : List Ev} {k : Nat} {s s' r : Sh} (h : runS s l = some s') (hk : k < l.length) (hr : runS s (l.take k) = some r) : ∃ r', stepS r l[k] = some r' ∧ runS s (l.take (k + 1)) = some r' := by
  obtain ⟨r', h1⟩ := runS_take (k := k + 1) h
  have e : l.take (k + 1) = l.take k ++ [l[k]] := by
    rw [List.take_succ_eq_append_getElem hk]
  have h2 := h1
  rw [e, runS_snoc, hr] at h2
  exact ⟨r', h2, h1⟩
end Go.Proofs.YtcddlnmcjmhbcaaDoor
/-
  The checker's machine: what holds behind every event. Nothing of the program.
-/
namespace Go.Proofs.YtcddlnmcjmhbcaaDoor
set_option linter.unusedVariables false

/-- What holds of a thread, and of the stripes as it sees them. -/
structure WfT (s : Sh) (i : Nat) (t : Th) : Prop where
  at0 : 0 ≤ t.at_ ∧ t.at_ ≤ 9
  st : 0 ≤ t.stripe ∧ t.stripe < s.n
  own : ∀ b, t.owned.testBit b = true → b < s.sts.length ∧ (s.sts.getD b (-1, 0)).1 = (i : Int)
  m1 : t.read < 4294967296
  m2 : t.owned < 4294967296
  m3 : t.stored < 4294967296
  m4 : t.check < 4294967296
  idle : t.at_ = 0 ∨ t.at_ = 1 ∨ t.at_ = 2 ∨ t.at_ = 8 ∨ t.at_ = 9 → t.owned = 0
  busy : t.at_ = 3 ∨ t.at_ = 4 ∨ t.at_ = 5 ∨ t.at_ = 6 ∨ t.at_ = 7 → t.owned ≠ 0
  rvb : 0 ≤ t.rv ∧ t.rv ≤ s.clock
  wvb : 0 ≤ t.wv ∧ t.wv ≤ s.clock
  com : 0 ≤ t.commits
  lck : t.locked < 32 ∧ t.var < 32 ∧ -1 ≤ t.locked ∧ -1 ≤ t.var
structure Wf (s : Sh) : Prop where
  size : 1 ≤ s.sts.length ∧ (s.sts.length : Int) ≤ s.vars ∧ s.vars ≤ 32 ∧ s.ths.length ≤ 6
  clk : 0 ≤ s.clock ∧ s.clock ≤ 1099511627776
  th : ∀ i, i < s.ths.length → WfT s i (s.ths.getD i Th.zero)
  stb : ∀ i, i < s.sts.length → (-1 ≤ (s.sts.getD i (-1, 0)).1 ∧ (s.sts.getD i (-1, 0)).1 < s.ths.length) ∧ 0 ≤ (s.sts.getD i (-1, 0)).2 ∧ (s.sts.getD i (-1, 0)).2 ≤ 1099511627776

theorem getD_set_eq {α : Type} (l : List α) (i : Nat) (x d : α) (h : i < l.length) : (l.set i x).getD i d = x := by
  simp [List.getD, h]
theorem getD_set_ne {α : Type} (l : List α) (i j : Nat) (x d : α) (h : i ≠ j) : (l.set i x).getD j d = l.getD j d := by
  simp [List.getD, List.getElem?_set_ne h]

/-- What mayE says of an event. -/
theorem mayE_of {e : Ev} {T V S : Int} (h : mayE e T V S = true) : (1 ≤ e.kind ∧ e.kind ≤ 13) ∧ (0 ≤ e.th ∧ e.th < T) ∧ (0 ≤ e.tx ∧ e.tx ≤ 5) ∧ (0 ≤ e.v ∧ e.v ≤ 1099511627776) ∧ (0 ≤ e.at_ ∧ e.at_ < placesE e V S) ∧ (1 ≤ S ∧ S ≤ V ∧ V ≤ 32 ∧ T ≤ 6) := by
  unfold mayE sizesB at h
  simp only [Bool.and_eq_true, decide_eq_true_eq] at h
  have hl : 0 ≤ leastV e := by unfold leastV; split <;> omega
  omega
theorem places_S {e : Ev} {V S : Int} (h1 : e.kind ≠ 3) (h2 : e.kind ≠ 8) (hS : 1 ≤ S) : placesE e V S ≤ S := by
  unfold placesE; rw [if_neg (by omega)]; split <;> omega
theorem places_V {e : Ev} {V S : Int} (hS : 1 ≤ S) (hV : S ≤ V) : placesE e V S ≤ V := by
  unfold placesE; split
  · omega
  · split <;> omega

/-- A step leaves the thread's record, the clock, and at most one stripe turned. -/
theorem Wf.mk' {s s' : Sh} (hw : Wf s) {th : Nat} {t' : Th} (hth : th < s.ths.length) (hths : s'.ths = s.ths.set th t') (hvars : s'.vars = s.vars)
    (hclk : s.clock ≤ s'.clock ∧ s'.clock ≤ 1099511627776)
    (hsts : s'.sts = s.sts ∨ ∃ a p, s'.sts = s.sts.set a p ∧ a < s.sts.length ∧ (-1 ≤ p.1 ∧ p.1 < s.ths.length) ∧ (0 ≤ p.2 ∧ p.2 ≤ 1099511627776) ∧ ((s.sts.getD a (-1, 0)).1 = -1 ∨ (s.sts.getD a (-1, 0)).1 = (th : Int)))
    (ht : WfT s' th t') : Wf s' := by
  have hlen : s'.sts.length = s.sts.length := by rcases hsts with h | ⟨a, p, h, -⟩ <;> rw [h] <;> simp
  have hn : s'.n = s.n := by unfold Sh.n; rw [hlen]
  refine ⟨?_, ?_, ?_, ?_⟩
  · rw [hlen, hvars, hths, List.length_set]; exact hw.size
  · have := hw.clk; omega
  · intro i hi
    rw [hths, List.length_set] at hi
    by_cases he : th = i
    · subst he
      rw [hths, getD_set_eq _ _ _ _ hi]; exact ht
    · rw [hths, getD_set_ne _ _ _ _ _ he]
      have h := hw.th i hi
      refine ⟨h.at0, by rw [hn]; exact h.st, fun b hb => ?_, h.m1, h.m2, h.m3, h.m4, h.idle, h.busy, ⟨h.rvb.1, by have := h.rvb.2; omega⟩, ⟨h.wvb.1, by have := h.wvb.2; omega⟩, h.com, h.lck⟩
      obtain ⟨h1, h2⟩ := h.own b hb
      refine ⟨by rw [hlen]; exact h1, ?_⟩
      rcases hsts with hs | ⟨a, p, hs, ha, -, -, hown⟩
      · rw [hs]; exact h2
      · rw [hs]
        by_cases hab : a = b
        · subst hab; omega
        · rw [getD_set_ne _ _ _ _ _ hab]; exact h2
  · intro i hi
    rw [hlen] at hi
    rw [hths, List.length_set]
    rcases hsts with hs | ⟨a, p, hs, ha, hp1, hp2, -⟩
    · rw [hs]; exact hw.stb i hi
    · rw [hs]
      by_cases hab : a = i
      · subst hab; rw [getD_set_eq _ _ _ _ ha]; exact ⟨hp1, hp2⟩
      · rw [getD_set_ne _ _ _ _ _ hab]; exact hw.stb i hi

theorem setb_ne (m s : Nat) : setb m s ≠ 0 := by
  intro h
  have := testBit_setb m s s
  rw [h, Nat.zero_testBit] at this
  simp at this

theorem newS_wf {T V S : Int} (h : sizeOk T V S = true) : Wf (newS T V S) := by
  unfold sizeOk at h
  rw [decide_eq_true_eq] at h
  have hz : ∀ i, i < T.toNat → (List.replicate T.toNat Th.zero).getD i Th.zero = Th.zero := by intro i hi; simp [List.getD, hi]
  have hs : ∀ i, i < S.toNat → (List.replicate S.toNat ((-1 : Int), (0 : Int))).getD i (-1, 0) = (-1, 0) := by intro i hi; simp [List.getD, hi]
  refine ⟨?_, by simp [newS], ?_, ?_⟩
  · simp only [newS, List.length_replicate]; omega
  · intro i hi
    simp only [newS, List.length_replicate] at hi
    show WfT _ i ((List.replicate T.toNat Th.zero).getD i Th.zero)
    rw [hz i hi]
    refine ⟨by simp [Th.zero], ?_, ?_, by simp [Th.zero], by simp [Th.zero], by simp [Th.zero], by simp [Th.zero], by simp [Th.zero], by simp [Th.zero], by simp [Th.zero, newS], by simp [Th.zero, newS], by simp [Th.zero], by simp [Th.zero]⟩
    · simp only [Th.zero, Sh.n, newS, List.length_replicate]; omega
    · intro b hb; simp [Th.zero] at hb
  · intro i hi
    simp only [newS, List.length_replicate] at hi
    show (-1 ≤ ((List.replicate S.toNat ((-1 : Int), (0 : Int))).getD i (-1, 0)).1 ∧ ((List.replicate S.toNat ((-1 : Int), (0 : Int))).getD i (-1, 0)).1 < ((List.replicate T.toNat Th.zero).length : Int)) ∧ 0 ≤ ((List.replicate S.toNat ((-1 : Int), (0 : Int))).getD i (-1, 0)).2 ∧ ((List.replicate S.toNat ((-1 : Int), (0 : Int))).getD i (-1, 0)).2 ≤ 1099511627776
    rw [hs i hi, List.length_replicate]; omega
end Go.Proofs.YtcddlnmcjmhbcaaDoor
/-
  The checker's machine: a step keeps what holds. Nothing of the program.
-/
namespace Go.Proofs.YtcddlnmcjmhbcaaDoor
set_option linter.unusedVariables false

theorem clk_same {s : Sh} (hw : Wf s) : s.clock ≤ s.clock ∧ s.clock ≤ 1099511627776 := ⟨by omega, hw.clk.2⟩
/-- The own thread's record, where no stripe has turned and what it owns is as it was. -/
theorem WfT.same {s s' : Sh} {i : Nat} {t t' : Th} (h : WfT s i t) (hsts : s'.sts = s.sts) (hclk : s.clock ≤ s'.clock) (ho : t'.owned = t.owned)
    (at0 : 0 ≤ t'.at_ ∧ t'.at_ ≤ 9) (st : 0 ≤ t'.stripe ∧ t'.stripe < s.n) (m1 : t'.read < 4294967296) (m3 : t'.stored < 4294967296) (m4 : t'.check < 4294967296)
    (idle : t'.at_ = 0 ∨ t'.at_ = 1 ∨ t'.at_ = 2 ∨ t'.at_ = 8 ∨ t'.at_ = 9 → t.owned = 0) (busy : t'.at_ = 3 ∨ t'.at_ = 4 ∨ t'.at_ = 5 ∨ t'.at_ = 6 ∨ t'.at_ = 7 → t.owned ≠ 0)
    (rvb : t'.rv = t.rv ∨ 0 ≤ t'.rv ∧ t'.rv ≤ s'.clock) (wvb : t'.wv = t.wv ∨ 0 ≤ t'.wv ∧ t'.wv ≤ s'.clock) (com : 0 ≤ t'.commits) (lck : t'.locked < 32 ∧ t'.var < 32 ∧ -1 ≤ t'.locked ∧ -1 ≤ t'.var) : WfT s' i t' := by
  have hn : s'.n = s.n := by unfold Sh.n; rw [hsts]
  refine ⟨at0, by rw [hn]; exact st, by rw [ho, hsts]; exact h.own, m1, by rw [ho]; exact h.m2, m3, m4, by rw [ho]; exact idle, by rw [ho]; exact busy, ?_, ?_, com, lck⟩
  · rcases rvb with e | e
    · rw [e]; have := h.rvb; omega
    · exact e
  · rcases wvb with e | e
    · rw [e]; have := h.wvb; omega
    · exact e

theorem mod_in {a n : Int} (h : 1 ≤ n) : 0 ≤ a % n ∧ a % n < n := ⟨Int.emod_nonneg _ (by omega), Int.emod_lt_of_pos _ (by omega)⟩
theorem own_getD (s : Sh) (i : Int) : s.own i = (s.sts.getD i.toNat (-1, 0)).1 := rfl
theorem ver_getD (s : Sh) (i : Int) : s.ver i = (s.sts.getD i.toNat (-1, 0)).2 := rfl

theorem stepS_wf {s s' : Sh} {e : Ev} (hw : Wf s) (h : stepS s e = some s') : Wf s' := by
  unfold stepS at h
  split at h
  case isFalse => cases h
  rename_i hm
  obtain ⟨hk, hth, htx, hv, hat, hS⟩ := mayE_of hm
  obtain ⟨th, hthe⟩ := Int.eq_ofNat_of_zero_le hth.1
  have hlt : th < s.ths.length := by omega
  have htn : e.th.toNat = th := by omega
  have hT : s.th e.th = s.ths.getD th Th.zero := by unfold Sh.th; rw [htn]
  rw [hT] at h
  have ht := hw.th th hlt
  generalize s.ths.getD th Th.zero = t at h ht
  have hatV : e.at_ < 32 := by have := places_V (e := e) hS.1 hS.2.1; have := hw.size; omega
  have hsn : s.n = s.sts.length := rfl
  have hstb := hw.stb
  unfold doesS at h
  by_cases k1 : e.kind = 1
  · rw [if_pos k1] at h
    unfold beginS at h; split at h
    case isFalse => cases h
    rename_i hc
    cases h
    refine hw.mk' (th := th) hlt (by simp [Sh.setTh, htn]; rfl) rfl ⟨by simp [Sh.setTh]; omega, by simp [Sh.setTh]; omega⟩ (Or.inl rfl) ?_
    refine ht.same rfl (by simp [Sh.setTh]; omega) (by have := ht.idle (Or.inl hc.1); simp; omega) (by simp) (by simp; exact (by have := hw.size; rw [hsn]; omega)) (by simp) (by simp) (by simp) (fun _ => ht.idle (Or.inl hc.1)) (by simp) (Or.inr (by simp [Sh.setTh]; omega)) (Or.inr (by simp [Sh.setTh]; omega)) (by simpa using ht.com) (by simp)
  rw [if_neg k1] at h
  by_cases k2 : e.kind = 2
  · rw [if_pos k2] at h
    unfold lookS at h; split at h
    case isFalse => cases h
    rename_i hc
    cases h
    have hp := places_S (e := e) (V := s.vars) (S := s.n) (by omega) (by omega) hS.1
    have hai : e.at_.toNat < s.sts.length := by omega
    refine hw.mk' (th := th) hlt (by simp [Sh.setTh, Sh.setSt, htn]; rfl) rfl (clk_same hw) (Or.inr ⟨e.at_.toNat, (-1, e.v), rfl, hai, ⟨by simp, by simp; omega⟩, by simp; omega, Or.inl (by rw [← own_getD]; exact hc.2.1)⟩) ?_
    have ho : t.owned = 0 := ht.idle (Or.inr (Or.inl hc.1))
    have hn' : ((s.setSt e.at_ (-1, e.v)).setTh e.th { t with at_ := 2, stripe := e.at_, v := e.v }).n = s.n := by simp [Sh.n, Sh.setTh, Sh.setSt]
    refine ⟨by simp, by rw [hn']; exact ⟨by simp; omega, by simp; rw [hsn]; omega⟩, fun b hb => by simp [ho] at hb, ht.m1, ht.m2, ht.m3, ht.m4, fun _ => ho, by simp, ht.rvb, ht.wvb, ht.com, ht.lck⟩
  rw [if_neg k2] at h
  by_cases k3 : e.kind = 3
  · rw [if_pos k3] at h
    unfold loadS at h; split at h
    case isFalse => cases h
    rename_i hc
    cases h
    refine hw.mk' (th := th) hlt (by simp [Sh.setTh, htn]; rfl) rfl (clk_same hw) (Or.inl rfl) ?_
    have ho : t.owned = 0 := ht.idle (Or.inr (Or.inr (Or.inl hc.1)))
    exact ht.same rfl (by simp [Sh.setTh]) rfl (by simp) ht.st (setb_lt ht.m1 (by have := ht.st; have := hw.size; rw [hsn] at *; omega)) ht.m3 ht.m4 (fun _ => ho) (by simp) (Or.inl rfl) (Or.inl rfl) ht.com ht.lck
  rw [if_neg k3] at h
  by_cases k4 : e.kind = 4
  · rw [if_pos k4] at h
    unfold lockS at h; split at h
    case isFalse => cases h
    rename_i hc
    cases h
    have hp := places_S (e := e) (V := s.vars) (S := s.n) (by omega) (by omega) hS.1
    have hai : e.at_.toNat < s.sts.length := by omega
    have hst := hstb _ hai
    refine hw.mk' (th := th) hlt (by simp [Sh.setTh, Sh.setSt, htn]; rfl) rfl (clk_same hw) (Or.inr ⟨e.at_.toNat, (e.th, s.ver e.at_), rfl, hai, by simp only; omega, by simp only; rw [ver_getD]; exact hst.2, Or.inl (by rw [← own_getD]; exact hc.2.2)⟩) ?_
    have hn' : ((s.setSt e.at_ (e.th, s.ver e.at_)).setTh e.th { t with at_ := 3, locked := e.at_, owned := setb t.owned e.at_.toNat }).n = s.n := by simp [Sh.n, Sh.setTh, Sh.setSt]
    refine ⟨by simp, by rw [hn']; exact ht.st, fun b hb => ?_, ht.m1, setb_lt ht.m2 (by omega), ht.m3, ht.m4, by simp, fun _ => setb_ne _ _, ht.rvb, ht.wvb, ht.com, ⟨by simp; omega, ht.lck.2.1, by simp; omega, ht.lck.2.2.2⟩⟩
    simp only [testBit_setb, Bool.or_eq_true, decide_eq_true_eq] at hb
    have hl : ((s.setSt e.at_ (e.th, s.ver e.at_)).setTh e.th { t with at_ := 3, locked := e.at_, owned := setb t.owned e.at_.toNat }).sts = s.sts.set e.at_.toNat (e.th, s.ver e.at_) := rfl
    rw [hl, List.length_set]
    by_cases hab : e.at_.toNat = b
    · subst hab; exact ⟨hai, by rw [getD_set_eq _ _ _ _ hai]; exact hthe⟩
    · rw [getD_set_ne _ _ _ _ _ hab]
      rcases hb with hb | hb
      · exact ht.own b hb
      · exact absurd hb hab
  rw [if_neg k4] at h
  by_cases k5 : e.kind = 5
  · rw [if_pos k5] at h
    unfold bumpS at h; split at h
    case isFalse => cases h
    rename_i hc
    cases h
    refine hw.mk' (th := th) hlt (by simp [Sh.setTh, htn]; rfl) rfl ⟨by simp [Sh.setTh]; omega, by simp [Sh.setTh]; omega⟩ (Or.inl rfl) ?_
    have ho := ht.busy (Or.inl hc.1)
    refine ht.same rfl (by simp [Sh.setTh]; omega) rfl (by simp) ht.st ht.m1 ht.m3 (by simp only; split; exact ht.m4; exact ht.m1) (by simp) (fun _ => ho) (Or.inl rfl) (Or.inr (by simp [Sh.setTh]; omega)) ht.com ht.lck
  rw [if_neg k5] at h
  by_cases k6 : e.kind = 6
  · rw [if_pos k6] at h
    unfold checkS at h; split at h
    case isFalse => cases h
    rename_i hc
    cases h
    refine hw.mk' (th := th) hlt (by simp [Sh.setTh, htn]; rfl) rfl (clk_same hw) (Or.inl rfl) ?_
    have ho := ht.busy (Or.inr (Or.inl hc.1))
    exact ht.same rfl (by simp [Sh.setTh]) rfl ht.at0 ht.st ht.m1 ht.m3 (clrb_lt ht.m4) ht.idle ht.busy (Or.inl rfl) (Or.inl rfl) ht.com ht.lck
  rw [if_neg k6] at h
  by_cases k7 : e.kind = 7
  · rw [if_pos k7] at h
    unfold commitS at h; split at h
    · rename_i hc
      cases h
      refine hw.mk' (th := th) hlt (by simp [Sh.setTh, htn]; rfl) rfl (clk_same hw) (Or.inl rfl) ?_
      have ho : t.owned = 0 := ht.idle (Or.inr (Or.inl hc.2))
      exact ht.same rfl (by simp [Sh.setTh]) rfl (by simp) ht.st ht.m1 ht.m3 ht.m4 (fun _ => ho) (by simp) (Or.inl rfl) (Or.inl rfl) (by have := ht.com; simp; omega) ht.lck
    · split at h
      case isFalse => cases h
      rename_i hc
      cases h
      refine hw.mk' (th := th) hlt (by simp [Sh.setTh, htn]; rfl) rfl (clk_same hw) (Or.inl rfl) ?_
      have ho := ht.busy (Or.inr (Or.inl hc.2.1))
      exact ht.same rfl (by simp [Sh.setTh]) rfl (by simp) ht.st ht.m1 ht.m3 ht.m4 (by simp) (fun _ => ho) (Or.inl rfl) (Or.inl rfl) ht.com ht.lck
  rw [if_neg k7] at h
  by_cases k8 : e.kind = 8
  · rw [if_pos k8] at h
    unfold storeS at h; split at h
    case isFalse => cases h
    rename_i hc
    cases h
    refine hw.mk' (th := th) hlt (by simp [Sh.setTh, htn]; rfl) rfl (clk_same hw) (Or.inl rfl) ?_
    have hmod := mod_in (a := e.at_) (n := s.n) (by rw [hsn]; have := hw.size; omega)
    exact ht.same rfl (by simp [Sh.setTh]) rfl ht.at0 ht.st ht.m1 (setb_lt ht.m3 (by have := hw.size; rw [hsn] at *; omega)) ht.m4 ht.idle ht.busy (Or.inl rfl) (Or.inl rfl) ht.com ⟨ht.lck.1, by simp; omega, ht.lck.2.2.1, by simp; omega⟩
  rw [if_neg k8] at h
  by_cases k9 : e.kind = 9
  · rw [if_pos k9] at h
    unfold freedS at h; split at h
    case isFalse => cases h
    rename_i hc
    have hp := places_S (e := e) (V := s.vars) (S := s.n) (by omega) (by omega) hS.1
    have hai : e.at_.toNat < s.sts.length := by omega
    have hbit : t.owned.testBit e.at_.toNat = true := by
      have : e.at_.toNat = leastb t.owned := by omega
      rw [this]; exact leastb_some (by omega)
    have hown := ht.own _ hbit
    have hcase : ∀ t', (t' = { t with at_ := 0, owned := clrb t.owned e.at_.toNat, commits := t.commits + 1 } ∧ clrb t.owned e.at_.toNat = 0) ∨ (t' = { t with at_ := 6, owned := clrb t.owned e.at_.toNat } ∧ clrb t.owned e.at_.toNat ≠ 0) → Wf ((s.setSt e.at_ (-1, t.wv)).setTh e.th t') := by
      intro t' ht'
      refine hw.mk' (th := th) (t' := t') hlt (by simp [Sh.setTh, Sh.setSt, htn]) rfl (clk_same hw) (Or.inr ⟨e.at_.toNat, (-1, t.wv), rfl, hai, ⟨by simp, by simp; omega⟩, by have := ht.wvb; have := hw.clk; simp; omega, Or.inr hown.2⟩) ?_
      have hn' : ((s.setSt e.at_ (-1, t.wv)).setTh e.th t').n = s.n := by simp [Sh.n, Sh.setTh, Sh.setSt]
      have hst : ((s.setSt e.at_ (-1, t.wv)).setTh e.th t').sts = s.sts.set e.at_.toNat (-1, t.wv) := rfl
      have hov : ∀ b, (clrb t.owned e.at_.toNat).testBit b = true → b < s.sts.length ∧ ((s.sts.set e.at_.toNat (-1, t.wv)).getD b (-1, 0)).1 = (th : Int) := by
        intro b hb
        rw [testBit_clrb, Bool.and_eq_true] at hb
        have hne : e.at_.toNat ≠ b := by simpa using hb.2
        rw [getD_set_ne _ _ _ _ _ hne]
        exact ht.own b hb.1
      rcases ht' with ⟨rfl, hz⟩ | ⟨rfl, hz⟩
      · exact ⟨by simp, by rw [hn']; exact ht.st, by rw [hst, List.length_set]; exact hov, ht.m1, clrb_lt ht.m2, ht.m3, ht.m4, fun _ => hz, by simp, ht.rvb, ht.wvb, by have := ht.com; simp; omega, ht.lck⟩
      · exact ⟨by simp, by rw [hn']; exact ht.st, by rw [hst, List.length_set]; exact hov, ht.m1, clrb_lt ht.m2, ht.m3, ht.m4, by simp, fun _ => hz, ht.rvb, ht.wvb, ht.com, ht.lck⟩
    cases h
    split
    · rename_i hz; exact hcase _ (Or.inl ⟨rfl, hz⟩)
    · rename_i hz; exact hcase _ (Or.inr ⟨rfl, hz⟩)
  rw [if_neg k9] at h
  by_cases k10 : e.kind = 10
  · rw [if_pos k10] at h
    unfold abortS at h; split at h
    case isFalse => cases h
    rename_i hc
    cases h
    refine hw.mk' (th := th) hlt (by simp [Sh.setTh, htn]; rfl) rfl (clk_same hw) (Or.inl rfl) ?_
    refine ht.same rfl (by simp [Sh.setTh]) rfl (by simp only; split <;> omega) ht.st ht.m1 ht.m3 ht.m4 (fun hx => ?_) (fun hx => ?_) (Or.inl rfl) (Or.inl rfl) ht.com ht.lck
    · simp only at hx; split at hx
      · assumption
      · omega
    · simp only at hx; split at hx
      · omega
      · assumption
  rw [if_neg k10] at h
  by_cases k11 : e.kind = 11
  · rw [if_pos k11] at h
    unfold undoS at h; split at h
    case isFalse => cases h
    rename_i hc
    have hp := places_S (e := e) (V := s.vars) (S := s.n) (by omega) (by omega) hS.1
    have hai : e.at_.toNat < s.sts.length := by omega
    have hst' := hstb _ hai
    have hbit : t.owned.testBit e.at_.toNat = true := by
      have : e.at_.toNat = leastb t.owned := by omega
      rw [this]; exact leastb_some (by omega)
    have hown := ht.own _ hbit
    cases h
    refine hw.mk' (th := th) hlt (by simp [Sh.setTh, Sh.setSt, htn]; rfl) rfl (clk_same hw) (Or.inr ⟨e.at_.toNat, (-1, s.ver e.at_), rfl, hai, ⟨by simp, by simp; omega⟩, by simp only; rw [ver_getD]; exact hst'.2, Or.inr hown.2⟩) ?_
    have hov : ∀ b, (clrb t.owned e.at_.toNat).testBit b = true → b < (s.sts.set e.at_.toNat (-1, s.ver e.at_)).length ∧ ((s.sts.set e.at_.toNat (-1, s.ver e.at_)).getD b (-1, 0)).1 = (th : Int) := by
      intro b hb
      rw [testBit_clrb, Bool.and_eq_true] at hb
      have hne : e.at_.toNat ≠ b := by simpa using hb.2
      rw [getD_set_ne _ _ _ _ _ hne, List.length_set]
      exact ht.own b hb.1
    refine ⟨by (simp only; split; (split <;> omega); omega), ?_, hov, ht.m1, clrb_lt ht.m2, ht.m3, ht.m4, fun hx => ?_, fun hx => ?_, ht.rvb, ht.wvb, ht.com, ht.lck⟩
    · have hn' : ((s.setSt e.at_ (-1, s.ver e.at_)).setTh e.th { t with at_ := if clrb t.owned e.at_.toNat = 0 then (if t.full then 9 else 0) else 7, owned := clrb t.owned e.at_.toNat }).n = s.n := by simp [Sh.n, Sh.setTh, Sh.setSt]
      rw [hn']; exact ht.st
    · simp only at hx; split at hx
      · assumption
      · omega
    · simp only at hx; split at hx
      · split at hx <;> omega
      · assumption
  rw [if_neg k11] at h
  by_cases k12 : e.kind = 12
  · rw [if_pos k12] at h
    unfold waitS at h; split at h
    case isFalse => cases h
    rename_i hc
    cases h
    refine hw.mk' (th := th) hlt (by simp [Sh.setTh, htn]; rfl) rfl (clk_same hw) (Or.inl rfl) ?_
    have ho : t.owned = 0 := ht.idle (Or.inr (Or.inl hc))
    exact ht.same rfl (by simp [Sh.setTh]) rfl (by simp) ht.st ht.m1 ht.m3 ht.m4 (fun _ => ho) (by simp) (Or.inl rfl) (Or.inl rfl) ht.com ht.lck
  rw [if_neg k12] at h
  unfold wakeS at h; split at h
  case isFalse => cases h
  rename_i hc
  cases h
  refine hw.mk' (th := th) hlt (by simp [Sh.setTh, htn]; rfl) rfl (clk_same hw) (Or.inl rfl) ?_
  have ho : t.owned = 0 := ht.idle (Or.inr (Or.inr (Or.inr (Or.inl hc.1))))
  exact ht.same rfl (by simp [Sh.setTh]) rfl (by simp) ht.st ht.m1 ht.m3 ht.m4 (fun _ => ho) (by simp) (Or.inl rfl) (Or.inl rfl) ht.com ht.lck
theorem runS_wf : ∀ (l : List Ev) {s s' : Sh}, Wf s → runS s l = some s' → Wf s'
  | [], s, s', hw, h => by unfold runS at h; cases h; exact hw
  | e :: l, s, s', hw, h => by
    unfold runS at h
    cases hs : stepS s e with
    | none => rw [hs] at h; cases h
    | some r => rw [hs] at h; exact runS_wf l (stepS_wf hw hs) h
end Go.Proofs.YtcddlnmcjmhbcaaDoor
