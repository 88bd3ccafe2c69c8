/-
  Joined texts: Crc Var ShD ShI ShJ ShU DeD DeD2 DeD3 DeD4 DeD5 DeE TrA TrB TrC TrD.
-/
/-
  The sum of bytes, plainly: a register of 32 bits; that it is linear, and one to one; what a burst of four bytes does to it. Nothing of the program.
-/
namespace Go.Proofs.YtnblhodhkifeeaaGreatDoor
set_option linter.unusedVariables false
def bitN (r : Nat) : Nat := if r % 2 = 1 then (r / 2) ^^^ 3988292384 else r / 2
def bit8 (r : Nat) : Nat := bitN (bitN (bitN (bitN (bitN (bitN (bitN (bitN r)))))))
def stepN (r c : Nat) : Nat := bit8 (r ^^^ c)
def regN (r : Nat) (l : List Nat) : Nat := l.foldl stepN r
theorem regN_nil (r : Nat) : regN r [] = r := rfl
theorem regN_cons (r c : Nat) (cs : List Nat) : regN r (c :: cs) = regN (bit8 (r ^^^ c)) cs := rfl
attribute [irreducible] regN
def sumN (l : List Nat) : Nat := 4294967295 - regN 4294967295 l
theorem xor_lt {a b : Nat} (n : Nat) (ha : a < 2 ^ n) (hb : b < 2 ^ n) : a ^^^ b < 2 ^ n := Nat.xor_lt_two_pow ha hb
attribute [irreducible] bitN
theorem bitN_lt {r : Nat} (h : r < 4294967296) : bitN r < 4294967296 := by
  unfold bitN
  split
  · exact xor_lt 32 (by omega) (by decide)
  · omega
theorem bit8_lt {r : Nat} (h : r < 4294967296) : bit8 r < 4294967296 := by
  unfold bit8
  exact bitN_lt (bitN_lt (bitN_lt (bitN_lt (bitN_lt (bitN_lt (bitN_lt (bitN_lt h)))))))
theorem regN_lt (l : List Nat) : ∀ {r : Nat}, r < 4294967296 → (∀ c ∈ l, c < 256) → regN r l < 4294967296 := by
  induction l with
  | nil => intro r h _; rw [regN_nil]; exact h
  | cons c cs ih => intro r h hl; rw [regN_cons]; exact ih (bit8_lt (xor_lt 32 h (by have := hl c (by simp); omega))) (fun x hx => hl x (by simp [hx]))
theorem regN_append (l m : List Nat) : ∀ (r : Nat), regN r (l ++ m) = regN (regN r l) m := by
  induction l with
  | nil => intro r; rw [regN_nil]; rfl
  | cons c cs ih => intro r; rw [List.cons_append, regN_cons, regN_cons]; exact ih _
theorem compl_xor {x : Nat} (h : x < 4294967296) : 4294967295 - x = 4294967295 ^^^ x := by
  have e : 4294967295 - x = 2 ^ 32 - (x + 1) := by omega
  have e2 : (4294967295 : Nat) = 2 ^ 32 - (0 + 1) := by decide
  rw [e]
  refine Nat.eq_of_testBit_eq fun i => ?_
  rw [Nat.testBit_xor, Nat.testBit_two_pow_sub_succ (by omega), e2, Nat.testBit_two_pow_sub_succ (by omega)]
  by_cases hi : i < 32
  · simp [hi]
  · have : x.testBit i = false := Nat.testBit_lt_two_pow (Nat.lt_of_lt_of_le (show x < 2 ^ 32 from h) (Nat.pow_le_pow_right (by decide) (by omega)))
    simp [hi, this]
def sealN (y : Nat) : List Nat := [y % 256, y / 256 % 256, y / 65536 % 256, y / 16777216]
theorem sumN_lt (l : List Nat) : sumN l < 4294967296 := by unfold sumN; omega
end Go.Proofs.YtnblhodhkifeeaaGreatDoor
/-
  Numbers as bytes, plainly: seven bits a byte, the least ones first. Nothing of the program.
-/
namespace Go.Proofs.YtnblhodhkifeeaaGreatDoor
set_option linter.unusedVariables false
def putF : Nat → Nat → List Nat
  | 0, _ => []
  | k + 1, n => if n < 128 then [n] else (n % 128 + 128) :: putF k (n / 128)
def putN (n : Nat) : List Nat := putF 10 n
def getF : Nat → Nat → Nat → Nat → List Nat → Nat × Nat × Nat
  | 0, _, _, _, _ => (0, 0, 20)
  | _ + 1, _, _, _, [] => (0, 0, 8)
  | k + 1, i, n, u, b :: bs => if i = 9 ∧ 1 < b then (0, 0, 20) else if b < 128 then (if b = 0 ∧ 0 < i then (0, 0, 11) else (n + b * u, i + 1, 0)) else getF k (i + 1) (n + (b - 128) * u) (u * 128) bs
def getN (l : List Nat) : Nat × Nat × Nat := getF 10 0 0 1 l
theorem putF_len : ∀ (k n : Nat), (putF k n).length ≤ k
  | 0, _ => by simp [putF]
  | k + 1, n => by
    unfold putF; split
    · simp
    · have := putF_len k (n / 128); simp; omega
theorem putF_byte : ∀ (k n : Nat), ∀ c ∈ putF k n, c < 256
  | 0, _, c, h => by simp [putF] at h
  | k + 1, n, c, h => by
    unfold putF at h; split at h
    · simp at h; omega
    · simp only [List.mem_cons] at h
      rcases h with rfl | h
      · omega
      · exact putF_byte k _ c h
theorem get_put_aux : ∀ (k : Nat) (n a u i : Nat) (rest : List Nat), k + i = 10 → 1 ≤ k → n < 2 ^ (64 - 7 * i) → (0 < i → 0 < n) → getF k i a u (putF k n ++ rest) = (a + n * u, i + (putF k n).length, 0)
  | 0, _, _, _, _, _, _, h, _, _ => by omega
  | k + 1, n, a, u, i, rest, hk, _, hn, h0 => by
    by_cases h : n < 128
    · have h9 : ¬ (i = 9 ∧ 1 < n) := fun ⟨h1, h2⟩ => by subst h1; simp at hn; omega
      have hz : ¬ (n = 0 ∧ 0 < i) := fun ⟨h1, h2⟩ => by have := h0 h2; omega
      simp [putF, h, getF, h9, hz]
    · have hi : i < 9 := by
        rcases Nat.lt_or_ge i 9 with h' | h'
        · exact h'
        · have : i = 9 := by omega
          subst this; simp at hn; omega
      have h9 : ¬ (i = 9 ∧ 1 < n % 128 + 128) := by omega
      have hb : ¬ n % 128 + 128 < 128 := by omega
      simp only [putF, h, if_false, List.cons_append, getF, h9, hb]
      rw [get_put_aux k (n / 128) _ _ (i + 1) rest (by omega) (by omega) ?_ (by omega)]
      · have e : n = n % 128 + n / 128 * 128 := by omega
        simp only [Nat.add_sub_cancel, List.length_cons, Prod.mk.injEq, and_true]
        refine ⟨?_, by omega⟩
        have : n * u = (n % 128 + n / 128 * 128) * u := by rw [← e]
        rw [this, Nat.add_mul, Nat.mul_assoc, Nat.mul_comm 128 u, Nat.add_assoc]
      · have e : 64 - 7 * i = (64 - 7 * (i + 1)) + 7 := by omega
        rw [e, Nat.pow_add] at hn
        exact Nat.div_lt_of_lt_mul (by rw [Nat.mul_comm]; exact hn)
theorem get_put (n : Nat) (rest : List Nat) (h : n < 18446744073709551616) : getN (putN n ++ rest) = (n, (putN n).length, 0) := by
  have := get_put_aux 10 n 0 1 0 rest (by omega) (by omega) (by simpa using h) (by omega)
  simpa [getN, putN] using this
theorem put_get_aux : ∀ (k : Nat) (l : List Nat) (a u i m s : Nat), k + i = 10 → (∀ c ∈ l, c < 256) → getF k i a u l = (m, s, 0) → ∃ n, m = a + n * u ∧ i < s ∧ s ≤ 10 ∧ s - i ≤ l.length ∧ l.take (s - i) = putF k n ∧ n < 2 ^ (64 - 7 * i) ∧ (0 < i → 0 < n)
  | 0, l, a, u, i, m, s, _, _, h => by simp [getF] at h
  | k + 1, [], a, u, i, m, s, _, _, h => by simp [getF] at h
  | k + 1, b :: bs, a, u, i, m, s, hk, hl, h => by
    have hb := hl b (by simp)
    unfold getF at h
    split at h
    · simp at h
    rename_i h9
    split at h
    · rename_i hlt
      split at h
      · simp at h
      rename_i hz
      simp only [Prod.mk.injEq, and_true] at h
      obtain ⟨rfl, rfl⟩ := h
      refine ⟨b, rfl, by omega, by omega, by simp, by simp [putF, hlt], ?_, by omega⟩
      by_cases hi : i = 9
      · subst hi; simp; omega
      · exact Nat.lt_of_lt_of_le hlt (by have := Nat.pow_le_pow_right (n := 2) (by decide) (show 7 ≤ 64 - 7 * i by omega); simpa using this)
    · rename_i hge
      obtain ⟨n, rfl, h1, h2, h3, h4, h5, h6⟩ := put_get_aux k bs _ _ (i + 1) m s (by omega) (fun c hc => hl c (by simp [hc])) h
      have hn : 0 < n := h6 (by omega)
      have hi : i < 9 := by
        rcases Nat.lt_or_ge i 9 with h' | h'
        · exact h'
        · omega
      refine ⟨(b - 128) + n * 128, ?_, by omega, h2, by simp; omega, ?_, ?_, by omega⟩
      · rw [Nat.add_mul, Nat.mul_assoc n, Nat.mul_comm 128 u, Nat.add_assoc]
      · obtain ⟨t, ht⟩ : ∃ t, s - i = t + 1 := ⟨s - i - 1, by omega⟩
        have e1 : ¬ (b - 128) + n * 128 < 128 := by omega
        have e2 : ((b - 128) + n * 128) % 128 + 128 = b := by omega
        have e3 : ((b - 128) + n * 128) / 128 = n := by omega
        rw [ht, List.take_succ_cons]
        simp only [putF, e1, if_false, e2, e3]
        rw [← h4]
        congr 2
        omega
      · have e : 64 - 7 * i = (64 - 7 * (i + 1)) + 7 := by omega
        rw [e, Nat.pow_add]
        omega
theorem put_get {l : List Nat} {m s : Nat} (hl : ∀ c ∈ l, c < 256) (h : getN l = (m, s, 0)) : l.take s = putN m ∧ 0 < s ∧ s ≤ 10 ∧ s ≤ l.length ∧ m < 18446744073709551616 := by
  obtain ⟨n, rfl, h1, h2, h3, h4, h5, -⟩ := put_get_aux 10 l 0 1 0 m s (by omega) hl h
  simp only [Nat.zero_add, Nat.mul_one, Nat.sub_zero] at *
  exact ⟨h4, h1, h2, h3, by simpa using h5⟩
end Go.Proofs.YtnblhodhkifeeaaGreatDoor
/-
  Events and the checker of traces as data: what an event may be, the machine's step, and what follows of it. Nothing of the program.
-/
namespace Go.Proofs.YtnblhodhkifeeaaGreatDoor
set_option linter.unusedVariables false
structure Ev where
  kind : Int
  th : Int
  tx : Int
  at_ : Int
  v : Int
  x : Int
  why : Int
theorem Ev.ext' {a b : Ev} (h1 : a.kind = b.kind) (h2 : a.th = b.th) (h3 : a.tx = b.tx) (h4 : a.at_ = b.at_) (h5 : a.v = b.v) (h6 : a.x = b.x) (h7 : a.why = b.why) : a = b := by
  cases a; cases b; simp only [Ev.mk.injEq]; exact ⟨h1, h2, h3, h4, h5, h6, h7⟩
def bareE (e : Ev) : Ev :=
  if e.kind = 1 then ⟨e.kind, e.th, e.tx, 0, e.v, 0, 0⟩
  else if e.kind = 2 then ⟨e.kind, e.th, 0, e.at_, e.v, 0, 0⟩
  else if e.kind = 3 ∨ e.kind = 8 then ⟨e.kind, e.th, 0, e.at_, 0, e.x, 0⟩
  else if e.kind = 4 ∨ e.kind = 6 ∨ e.kind = 9 ∨ e.kind = 11 then ⟨e.kind, e.th, 0, e.at_, 0, 0, 0⟩
  else if e.kind = 5 ∨ e.kind = 7 then ⟨e.kind, e.th, 0, 0, e.v, 0, 0⟩
  else if e.kind = 10 then ⟨e.kind, e.th, 0, e.at_, 0, 0, e.why⟩
  else ⟨e.kind, e.th, 0, 0, 0, 0, 0⟩
def sizesB (T V S : Int) : Bool := decide (1 ≤ T ∧ T ≤ 6 ∧ 1 ≤ V ∧ V ≤ 32 ∧ 1 ≤ S ∧ S ≤ V)
def placesE (e : Ev) (V S : Int) : Int := if e.kind = 3 ∨ e.kind = 8 then V else if e.kind = 10 ∧ e.why = 6 then 1 else S
def leastV (e : Ev) : Int := if e.kind = 5 then 1 else 0
def mayE (e : Ev) (T V S : Int) : Bool :=
  sizesB T V S && decide (1 ≤ e.kind ∧ e.kind ≤ 13 ∧ (e.kind = 10 → 1 ≤ e.why ∧ e.why ≤ 6) ∧ 0 ≤ e.th ∧ e.th < T ∧ 0 ≤ e.tx ∧ e.tx ≤ 5 ∧ leastV e ≤ e.v ∧ e.v ≤ 1099511627776 ∧ 0 ≤ e.at_ ∧ e.at_ < placesE e V S) &&
    decide (e.kind = (bareE e).kind ∧ e.th = (bareE e).th ∧ e.tx = (bareE e).tx ∧ e.at_ = (bareE e).at_ ∧ e.v = (bareE e).v ∧ e.x = (bareE e).x ∧ e.why = (bareE e).why)
structure Th where
  at_ : Int
  commits : Int
  rv : Int
  wv : Int
  stripe : Int
  v : Int
  read : Nat
  owned : Nat
  stored : Nat
  check : Nat
  locked : Int
  var : Int
  full : Bool
def Th.zero : Th := ⟨0, 0, 0, 0, 0, 0, 0, 0, 0, 0, 0, 0, false⟩
structure Sh where
  vars : Int
  clock : Int
  ths : List Th
  sts : List (Int × Int)
def setb (m s : Nat) : Nat := m ||| 2 ^ s
def clrb (m s : Nat) : Nat := m ^^^ (m &&& 2 ^ s)
def leastb (m : Nat) : Nat := ((List.range 32).find? fun i => m.testBit i).getD 32
theorem testBit_setb (m s i : Nat) : (setb m s).testBit i = (m.testBit i || decide (s = i)) := by
  unfold setb; rw [Nat.testBit_or, Nat.testBit_two_pow]
theorem testBit_clrb (m s i : Nat) : (clrb m s).testBit i = (m.testBit i && !decide (s = i)) := by
  unfold clrb; rw [Nat.testBit_xor, Nat.testBit_and, Nat.testBit_two_pow]
  cases m.testBit i <;> cases decide (s = i) <;> rfl
theorem setb_lt {m s : Nat} (hm : m < 4294967296) (hs : s < 32) : setb m s < 4294967296 := by
  have h2 : 2 ^ s < 2 ^ 32 := Nat.pow_lt_pow_right (by omega) hs
  exact Nat.or_lt_two_pow (n := 32) hm h2
theorem clrb_lt {m s : Nat} (hm : m < 4294967296) : clrb m s < 4294967296 :=
  Nat.xor_lt_two_pow (n := 32) hm (Nat.lt_of_le_of_lt Nat.and_le_left hm)
theorem leastb_some {m : Nat} (h : leastb m < 32) : m.testBit (leastb m) = true := by
  unfold leastb at h ⊢
  cases hf : (List.range 32).find? fun i => m.testBit i with
  | none => rw [hf] at h; simp at h
  | some i => simpa using List.find?_some hf
theorem leastb_min {m i : Nat} (h : m.testBit i = true) (hi : i < 32) : leastb m ≤ i := by
  unfold leastb
  cases hf : (List.range 32).find? fun i => m.testBit i with
  | none =>
    have := List.find?_eq_none.1 hf i (List.mem_range.2 hi)
    simp [h] at this
  | some j =>
    simp only [Option.getD_some]
    rcases Nat.lt_or_ge i j with hlt | hge
    · have := List.find?_range_eq_some.1 hf
      have h2 := this.2.2 i hlt
      simp [h] at h2
    · exact hge
def Sh.own (s : Sh) (i : Int) : Int := (s.sts.getD i.toNat (-1, 0)).1
def Sh.ver (s : Sh) (i : Int) : Int := (s.sts.getD i.toNat (-1, 0)).2
def Sh.setSt (s : Sh) (i : Int) (p : Int × Int) : Sh := { s with sts := s.sts.set i.toNat p }
def Sh.setTh (s : Sh) (i : Int) (t : Th) : Sh := { s with ths := s.ths.set i.toNat t }
def Sh.th (s : Sh) (i : Int) : Th := s.ths.getD i.toNat Th.zero
def Sh.n (s : Sh) : Int := s.sts.length
def Sh.oth (s : Sh) (i th : Int) : Bool := decide (s.own i ≠ -1 ∧ s.own i ≠ th)
def beginS (s : Sh) (t : Th) (e : Ev) : Option Sh :=
  if t.at_ = 0 ∧ e.tx = t.commits ∧ s.clock ≤ e.v then some ({ s with clock := e.v }.setTh e.th ⟨1, t.commits, e.v, 0, 0, 0, 0, 0, 0, 0, -1, -1, false⟩) else none
def lookS (s : Sh) (t : Th) (e : Ev) : Option Sh :=
  if t.at_ = 1 ∧ s.own e.at_ = -1 ∧ s.ver e.at_ ≤ e.v ∧ e.v ≤ t.rv then some ((s.setSt e.at_ (-1, e.v)).setTh e.th { t with at_ := 2, stripe := e.at_, v := e.v }) else none
def loadS (s : Sh) (t : Th) (e : Ev) : Option Sh :=
  if t.at_ = 2 ∧ e.at_ % s.n = t.stripe ∧ s.own t.stripe = -1 ∧ s.ver t.stripe = t.v then some (s.setTh e.th { t with at_ := 1, read := setb t.read t.stripe.toNat }) else none
def lockS (s : Sh) (t : Th) (e : Ev) : Option Sh :=
  if (t.at_ = 1 ∨ t.at_ = 3) ∧ t.locked < e.at_ ∧ s.own e.at_ = -1 then some ((s.setSt e.at_ (e.th, s.ver e.at_)).setTh e.th { t with at_ := 3, locked := e.at_, owned := setb t.owned e.at_.toNat }) else none
def bumpS (s : Sh) (t : Th) (e : Ev) : Option Sh :=
  if t.at_ = 3 ∧ s.clock < e.v then some ({ s with clock := e.v }.setTh e.th { t with at_ := 4, wv := e.v, check := if e.v = t.rv + 1 then t.check else t.read }) else none
def checkS (s : Sh) (t : Th) (e : Ev) : Option Sh :=
  if t.at_ = 4 ∧ e.at_ = leastb t.check ∧ s.oth e.at_ e.th = false ∧ s.ver e.at_ ≤ t.rv then some (s.setTh e.th { t with check := clrb t.check e.at_.toNat }) else none
def commitS (s : Sh) (t : Th) (e : Ev) : Option Sh :=
  if e.v = 0 ∧ t.at_ = 1 then some (s.setTh e.th { t with at_ := 0, commits := t.commits + 1 })
  else if e.v ≠ 0 ∧ t.at_ = 4 ∧ t.check = 0 ∧ e.v = t.wv then some (s.setTh e.th { t with at_ := 5 }) else none
def storeS (s : Sh) (t : Th) (e : Ev) : Option Sh :=
  if t.at_ = 5 ∧ t.var < e.at_ ∧ t.owned.testBit (e.at_ % s.n).toNat = true then some (s.setTh e.th { t with var := e.at_, stored := setb t.stored (e.at_ % s.n).toNat }) else none
def freedS (s : Sh) (t : Th) (e : Ev) : Option Sh :=
  if (t.at_ = 6 ∨ (t.at_ = 5 ∧ t.stored = t.owned)) ∧ e.at_ = leastb t.owned then
    some ((s.setSt e.at_ (-1, t.wv)).setTh e.th (if clrb t.owned e.at_.toNat = 0 then { t with at_ := 0, owned := clrb t.owned e.at_.toNat, commits := t.commits + 1 } else { t with at_ := 6, owned := clrb t.owned e.at_.toNat }))
  else none
def fitsS (s : Sh) (t : Th) (e : Ev) : Bool :=
  if e.why = 1 then decide (t.at_ = 1) && s.oth e.at_ e.th
  else if e.why = 2 then decide (t.at_ = 1 ∧ s.own e.at_ = -1 ∧ t.rv < s.ver e.at_)
  else if e.why = 3 then decide (t.at_ = 2 ∧ e.at_ = t.stripe ∧ ¬ (s.own t.stripe = -1 ∧ s.ver t.stripe = t.v))
  else if e.why = 4 then decide ((t.at_ = 1 ∨ t.at_ = 3) ∧ t.locked < e.at_) && s.oth e.at_ e.th
  else if e.why = 5 then decide (t.at_ = 4 ∧ e.at_ = leastb t.check) && (s.oth e.at_ e.th || decide (t.rv < s.ver e.at_))
  else if e.why = 6 then decide (t.at_ = 3)
  else false
def abortS (s : Sh) (t : Th) (e : Ev) : Option Sh :=
  if fitsS s t e = true then some (s.setTh e.th { t with at_ := if t.owned = 0 then 0 else 7, full := decide (e.why = 6) }) else none
def undoS (s : Sh) (t : Th) (e : Ev) : Option Sh :=
  if t.at_ = 7 ∧ e.at_ = leastb t.owned then
    some ((s.setSt e.at_ (-1, s.ver e.at_)).setTh e.th { t with at_ := if clrb t.owned e.at_.toNat = 0 then (if t.full then 9 else 0) else 7, owned := clrb t.owned e.at_.toNat })
  else none
def waitS (s : Sh) (t : Th) (e : Ev) : Option Sh :=
  if t.at_ = 1 then some (s.setTh e.th { t with at_ := 8 }) else none
def wakesS (s : Sh) (t : Th) : Bool := (List.range s.sts.length).any fun i => t.read.testBit i && decide (s.own i = -1 ∧ t.rv < s.ver i)
def wakeS (s : Sh) (t : Th) (e : Ev) : Option Sh :=
  if t.at_ = 8 ∧ wakesS s t = true then some (s.setTh e.th { t with at_ := 0 }) else none
def doesS (s : Sh) (t : Th) (e : Ev) : Option Sh :=
  if e.kind = 1 then beginS s t e else if e.kind = 2 then lookS s t e else if e.kind = 3 then loadS s t e else if e.kind = 4 then lockS s t e
  else if e.kind = 5 then bumpS s t e else if e.kind = 6 then checkS s t e else if e.kind = 7 then commitS s t e else if e.kind = 8 then storeS s t e
  else if e.kind = 9 then freedS s t e else if e.kind = 10 then abortS s t e else if e.kind = 11 then undoS s t e else if e.kind = 12 then waitS s t e
  else wakeS s t e
def stepS (s : Sh) (e : Ev) : Option Sh := if mayE e s.ths.length s.vars s.n = true then doesS s (s.th e.th) e else none
def runS (s : Sh) : List Ev → Option Sh
  | [] => some s
  | e :: l => match stepS s e with
    | some s' => runS s' l
    | none => none
def comesS (s : Sh) : List Ev → Nat
  | [] => 0
  | e :: l => match stepS s e with
    | some s' => comesS s' l + 1
    | none => 0
def newS (T V S : Int) : Sh := ⟨V, 0, List.replicate T.toNat Th.zero, List.replicate S.toNat (-1, 0)⟩
def sizeOk (T V S : Int) : Bool := decide (0 ≤ T ∧ T ≤ 6 ∧ 1 ≤ V ∧ V ≤ 32 ∧ 1 ≤ S ∧ S ≤ V)
def checkT (T V S : Int) (l : List Ev) : Int × Int :=
  if sizeOk T V S = false then (0, 1) else if 1048576 < l.length then (0, 40) else
    if comesS (newS T V S) l < l.length then (((comesS (newS T V S) l : Nat) : Int), 4) else (((l.length : Nat) : Int), 0)
theorem comesS_le (l : List Ev) : ∀ s, comesS s l ≤ l.length := by
  induction l with
  | nil => intro s; simp [comesS]
  | cons e l ih =>
    intro s
    unfold comesS
    cases h : stepS s e with
    | none => simp
    | some s' => simp only [List.length_cons]; have := ih s'; omega
theorem runS_append (l m : List Ev) : ∀ s, runS s (l ++ m) = (runS s l).bind fun s' => runS s' m := by
  induction l with
  | nil => intro s; rfl
  | cons e l ih =>
    intro s
    simp only [List.cons_append, runS]
    cases stepS s e with
    | none => rfl
    | some s' => exact ih s'
theorem runS_snoc (l : List Ev) (e : Ev) (s : Sh) : runS s (l ++ [e]) = (runS s l).bind fun s' => stepS s' e := by
  rw [runS_append]
  cases runS s l with
  | none => rfl
  | some s' =>
    simp only [Option.bind_some, runS]
    cases stepS s' e <;> rfl
theorem comes_iff (l : List Ev) : ∀ s, comesS s l = l.length ↔ (runS s l).isSome = true := by
  induction l with
  | nil => intro s; simp [comesS, runS]
  | cons e l ih =>
    intro s
    unfold comesS runS
    cases h : stepS s e with
    | none => simp
    | some s' => simp only [List.length_cons, Nat.add_right_cancel_iff]; exact ih s'
end Go.Proofs.YtnblhodhkifeeaaGreatDoor
/-
  The checker's machine: what holds behind every event. Nothing of the program.
-/
namespace Go.Proofs.YtnblhodhkifeeaaGreatDoor
set_option linter.unusedVariables false
structure WfT (s : Sh) (i : Nat) (t : Th) : Prop where
  at0 : 0 ≤ t.at_ ∧ t.at_ ≤ 9
  st : 0 ≤ t.stripe ∧ t.stripe < s.n
  own : ∀ b, t.owned.testBit b = true → b < s.sts.length ∧ (s.sts.getD b (-1, 0)).1 = (i : Int)
  m1 : t.read < 4294967296
  m2 : t.owned < 4294967296
  m3 : t.stored < 4294967296
  m4 : t.check < 4294967296
  idle : t.at_ = 0 ∨ t.at_ = 1 ∨ t.at_ = 2 ∨ t.at_ = 8 ∨ t.at_ = 9 → t.owned = 0
  busy : t.at_ = 3 ∨ t.at_ = 4 ∨ t.at_ = 5 ∨ t.at_ = 6 ∨ t.at_ = 7 → t.owned ≠ 0
  rvb : 0 ≤ t.rv ∧ t.rv ≤ s.clock
  wvb : 0 ≤ t.wv ∧ t.wv ≤ s.clock
  com : 0 ≤ t.commits
  lck : t.locked < 32 ∧ t.var < 32 ∧ -1 ≤ t.locked ∧ -1 ≤ t.var
structure Wf (s : Sh) : Prop where
  size : 1 ≤ s.sts.length ∧ (s.sts.length : Int) ≤ s.vars ∧ s.vars ≤ 32 ∧ s.ths.length ≤ 6
  clk : 0 ≤ s.clock ∧ s.clock ≤ 1099511627776
  th : ∀ i, i < s.ths.length → WfT s i (s.ths.getD i Th.zero)
  stb : ∀ i, i < s.sts.length → (-1 ≤ (s.sts.getD i (-1, 0)).1 ∧ (s.sts.getD i (-1, 0)).1 < s.ths.length) ∧ 0 ≤ (s.sts.getD i (-1, 0)).2 ∧ (s.sts.getD i (-1, 0)).2 ≤ 1099511627776
theorem getD_set_eq {α : Type} (l : List α) (i : Nat) (x d : α) (h : i < l.length) : (l.set i x).getD i d = x := by
  simp [List.getD, h]
theorem getD_set_ne {α : Type} (l : List α) (i j : Nat) (x d : α) (h : i ≠ j) : (l.set i x).getD j d = l.getD j d := by
  simp [List.getD, List.getElem?_set_ne h]
theorem mayE_of {e : Ev} {T V S : Int} (h : mayE e T V S = true) : (1 ≤ e.kind ∧ e.kind ≤ 13) ∧ (0 ≤ e.th ∧ e.th < T) ∧ (0 ≤ e.tx ∧ e.tx ≤ 5) ∧ (0 ≤ e.v ∧ e.v ≤ 1099511627776) ∧ (0 ≤ e.at_ ∧ e.at_ < placesE e V S) ∧ (1 ≤ S ∧ S ≤ V ∧ V ≤ 32 ∧ T ≤ 6) := by
  unfold mayE sizesB at h
  simp only [Bool.and_eq_true, decide_eq_true_eq] at h
  have hl : 0 ≤ leastV e := by unfold leastV; split <;> omega
  omega
theorem places_S {e : Ev} {V S : Int} (h1 : e.kind ≠ 3) (h2 : e.kind ≠ 8) (hS : 1 ≤ S) : placesE e V S ≤ S := by
  unfold placesE; rw [if_neg (by omega)]; split <;> omega
theorem places_V {e : Ev} {V S : Int} (hS : 1 ≤ S) (hV : S ≤ V) : placesE e V S ≤ V := by
  unfold placesE; split
  · omega
  · split <;> omega
theorem Wf.mk' {s s' : Sh} (hw : Wf s) {th : Nat} {t' : Th} (hth : th < s.ths.length) (hths : s'.ths = s.ths.set th t') (hvars : s'.vars = s.vars)
    (hclk : s.clock ≤ s'.clock ∧ s'.clock ≤ 1099511627776)
    (hsts : s'.sts = s.sts ∨ ∃ a p, s'.sts = s.sts.set a p ∧ a < s.sts.length ∧ (-1 ≤ p.1 ∧ p.1 < s.ths.length) ∧ (0 ≤ p.2 ∧ p.2 ≤ 1099511627776) ∧ ((s.sts.getD a (-1, 0)).1 = -1 ∨ (s.sts.getD a (-1, 0)).1 = (th : Int)))
    (ht : WfT s' th t') : Wf s' := by
  have hlen : s'.sts.length = s.sts.length := by rcases hsts with h | ⟨a, p, h, -⟩ <;> rw [h] <;> simp
  have hn : s'.n = s.n := by unfold Sh.n; rw [hlen]
  refine ⟨?_, ?_, ?_, ?_⟩
  · rw [hlen, hvars, hths, List.length_set]; exact hw.size
  · have := hw.clk; omega
  · intro i hi
    rw [hths, List.length_set] at hi
    by_cases he : th = i
    · subst he
      rw [hths, getD_set_eq _ _ _ _ hi]; exact ht
    · rw [hths, getD_set_ne _ _ _ _ _ he]
      have h := hw.th i hi
      refine ⟨h.at0, by rw [hn]; exact h.st, fun b hb => ?_, h.m1, h.m2, h.m3, h.m4, h.idle, h.busy, ⟨h.rvb.1, by have := h.rvb.2; omega⟩, ⟨h.wvb.1, by have := h.wvb.2; omega⟩, h.com, h.lck⟩
      obtain ⟨h1, h2⟩ := h.own b hb
      refine ⟨by rw [hlen]; exact h1, ?_⟩
      rcases hsts with hs | ⟨a, p, hs, ha, -, -, hown⟩
      · rw [hs]; exact h2
      · rw [hs]
        by_cases hab : a = b
        · subst hab; omega
        · rw [getD_set_ne _ _ _ _ _ hab]; exact h2
  · intro i hi
    rw [hlen] at hi
    rw [hths, List.length_set]
    rcases hsts with hs | ⟨a, p, hs, ha, hp1, hp2, -⟩
    · rw [hs]; exact hw.stb i hi
    · rw [hs]
      by_cases hab : a = i
      · subst hab; rw [getD_set_eq _ _ _ _ ha]; exact ⟨hp1, hp2⟩
      · rw [getD_set_ne _ _ _ _ _ hab]; exact hw.stb i hi
theorem setb_ne (m s : Nat) : setb m s ≠ 0 := by
  intro h
  have := testBit_setb m s s
  rw [h, Nat.zero_testBit] at this
  simp at this
theorem newS_wf {T V S : Int} (h : sizeOk T V S = true) : Wf (newS T V S) := by
  unfold sizeOk at h
  rw [decide_eq_true_eq] at h
  have hz : ∀ i, i < T.toNat → (List.replicate T.toNat Th.zero).getD i Th.zero = Th.zero := by intro i hi; simp [List.getD, hi]
  have hs : ∀ i, i < S.toNat → (List.replicate S.toNat ((-1 : Int), (0 : Int))).getD i (-1, 0) = (-1, 0) := by intro i hi; simp [List.getD, hi]
  refine ⟨?_, by simp [newS], ?_, ?_⟩
  · simp only [newS, List.length_replicate]; omega
  · intro i hi
    simp only [newS, List.length_replicate] at hi
    show WfT _ i ((List.replicate T.toNat Th.zero).getD i Th.zero)
    rw [hz i hi]
    refine ⟨by simp [Th.zero], ?_, ?_, by simp [Th.zero], by simp [Th.zero], by simp [Th.zero], by simp [Th.zero], by simp [Th.zero], by simp [Th.zero], by simp [Th.zero, newS], by simp [Th.zero, newS], by simp [Th.zero], by simp [Th.zero]⟩
    · simp only [Th.zero, Sh.n, newS, List.length_replicate]; omega
    · intro b hb; simp [Th.zero] at hb
  · intro i hi
    simp only [newS, List.length_replicate] at hi
    show (-1 ≤ ((List.replicate S.toNat ((-1 : Int), (0 : Int))).getD i (-1, 0)).1 ∧ ((List.replicate S.toNat ((-1 : Int), (0 : Int))).getD i (-1, 0)).1 < ((List.replicate T.toNat Th.zero).length : Int)) ∧ 0 ≤ ((List.replicate S.toNat ((-1 : Int), (0 : Int))).getD i (-1, 0)).2 ∧ ((List.replicate S.toNat ((-1 : Int), (0 : Int))).getD i (-1, 0)).2 ≤ 1099511627776
    rw [hs i hi, List.length_replicate]; omega
end Go.Proofs.YtnblhodhkifeeaaGreatDoor
/-
  The checker's machine: a step keeps what holds. Nothing of the program.
-/
namespace Go.Proofs.YtnblhodhkifeeaaGreatDoor
set_option linter.unusedVariables false
theorem clk_same {s : Sh} (hw : Wf s) : s.clock ≤ s.clock ∧ s.clock ≤ 1099511627776 := ⟨by omega, hw.clk.2⟩
theorem WfT.same {s s' : Sh} {i : Nat} {t t' : Th} (h : WfT s i t) (hsts : s'.sts = s.sts) (hclk : s.clock ≤ s'.clock) (ho : t'.owned = t.owned)
    (at0 : 0 ≤ t'.at_ ∧ t'.at_ ≤ 9) (st : 0 ≤ t'.stripe ∧ t'.stripe < s.n) (m1 : t'.read < 4294967296) (m3 : t'.stored < 4294967296) (m4 : t'.check < 4294967296)
    (idle : t'.at_ = 0 ∨ t'.at_ = 1 ∨ t'.at_ = 2 ∨ t'.at_ = 8 ∨ t'.at_ = 9 → t.owned = 0) (busy : t'.at_ = 3 ∨ t'.at_ = 4 ∨ t'.at_ = 5 ∨ t'.at_ = 6 ∨ t'.at_ = 7 → t.owned ≠ 0)
    (rvb : t'.rv = t.rv ∨ 0 ≤ t'.rv ∧ t'.rv ≤ s'.clock) (wvb : t'.wv = t.wv ∨ 0 ≤ t'.wv ∧ t'.wv ≤ s'.clock) (com : 0 ≤ t'.commits) (lck : t'.locked < 32 ∧ t'.var < 32 ∧ -1 ≤ t'.locked ∧ -1 ≤ t'.var) : WfT s' i t' := by
  have hn : s'.n = s.n := by unfold Sh.n; rw [hsts]
  refine ⟨at0, by rw [hn]; exact st, by rw [ho, hsts]; exact h.own, m1, by rw [ho]; exact h.m2, m3, m4, by rw [ho]; exact idle, by rw [ho]; exact busy, ?_, ?_, com, lck⟩
  · rcases rvb with e | e
    · rw [e]; have := h.rvb; omega
    · exact e
  · rcases wvb with e | e
    · rw [e]; have := h.wvb; omega
    · exact e
theorem mod_in {a n : Int} (h : 1 ≤ n) : 0 ≤ a % n ∧ a % n < n := ⟨Int.emod_nonneg _ (by omega), Int.emod_lt_of_pos _ (by omega)⟩
theorem own_getD (s : Sh) (i : Int) : s.own i = (s.sts.getD i.toNat (-1, 0)).1 := rfl
theorem ver_getD (s : Sh) (i : Int) : s.ver i = (s.sts.getD i.toNat (-1, 0)).2 := rfl
theorem stepS_wf {s s' : Sh} {e : Ev} (hw : Wf s) (h : stepS s e = some s') : Wf s' := by
  unfold stepS at h
  split at h
  case isFalse => cases h
  rename_i hm
  obtain ⟨hk, hth, htx, hv, hat, hS⟩ := mayE_of hm
  obtain ⟨th, hthe⟩ := Int.eq_ofNat_of_zero_le hth.1
  have hlt : th < s.ths.length := by omega
  have htn : e.th.toNat = th := by omega
  have hT : s.th e.th = s.ths.getD th Th.zero := by unfold Sh.th; rw [htn]
  rw [hT] at h
  have ht := hw.th th hlt
  generalize s.ths.getD th Th.zero = t at h ht
  have hatV : e.at_ < 32 := by have := places_V (e := e) hS.1 hS.2.1; have := hw.size; omega
  have hsn : s.n = s.sts.length := rfl
  have hstb := hw.stb
  unfold doesS at h
  by_cases k1 : e.kind = 1
  · rw [if_pos k1] at h
    unfold beginS at h; split at h
    case isFalse => cases h
    rename_i hc
    cases h
    refine hw.mk' (th := th) hlt (by simp [Sh.setTh, htn]; rfl) rfl ⟨by simp [Sh.setTh]; omega, by simp [Sh.setTh]; omega⟩ (Or.inl rfl) ?_
    refine ht.same rfl (by simp [Sh.setTh]; omega) (by have := ht.idle (Or.inl hc.1); simp; omega) (by simp) (by simp; exact (by have := hw.size; rw [hsn]; omega)) (by simp) (by simp) (by simp) (fun _ => ht.idle (Or.inl hc.1)) (by simp) (Or.inr (by simp [Sh.setTh]; omega)) (Or.inr (by simp [Sh.setTh]; omega)) (by simpa using ht.com) (by simp)
  rw [if_neg k1] at h
  by_cases k2 : e.kind = 2
  · rw [if_pos k2] at h
    unfold lookS at h; split at h
    case isFalse => cases h
    rename_i hc
    cases h
    have hp := places_S (e := e) (V := s.vars) (S := s.n) (by omega) (by omega) hS.1
    have hai : e.at_.toNat < s.sts.length := by omega
    refine hw.mk' (th := th) hlt (by simp [Sh.setTh, Sh.setSt, htn]; rfl) rfl (clk_same hw) (Or.inr ⟨e.at_.toNat, (-1, e.v), rfl, hai, ⟨by simp, by simp; omega⟩, by simp; omega, Or.inl (by rw [← own_getD]; exact hc.2.1)⟩) ?_
    have ho : t.owned = 0 := ht.idle (Or.inr (Or.inl hc.1))
    have hn' : ((s.setSt e.at_ (-1, e.v)).setTh e.th { t with at_ := 2, stripe := e.at_, v := e.v }).n = s.n := by simp [Sh.n, Sh.setTh, Sh.setSt]
    refine ⟨by simp, by rw [hn']; exact ⟨by simp; omega, by simp; rw [hsn]; omega⟩, fun b hb => by simp [ho] at hb, ht.m1, ht.m2, ht.m3, ht.m4, fun _ => ho, by simp, ht.rvb, ht.wvb, ht.com, ht.lck⟩
  rw [if_neg k2] at h
  by_cases k3 : e.kind = 3
  · rw [if_pos k3] at h
    unfold loadS at h; split at h
    case isFalse => cases h
    rename_i hc
    cases h
    refine hw.mk' (th := th) hlt (by simp [Sh.setTh, htn]; rfl) rfl (clk_same hw) (Or.inl rfl) ?_
    have ho : t.owned = 0 := ht.idle (Or.inr (Or.inr (Or.inl hc.1)))
    exact ht.same rfl (by simp [Sh.setTh]) rfl (by simp) ht.st (setb_lt ht.m1 (by have := ht.st; have := hw.size; rw [hsn] at *; omega)) ht.m3 ht.m4 (fun _ => ho) (by simp) (Or.inl rfl) (Or.inl rfl) ht.com ht.lck
  rw [if_neg k3] at h
  by_cases k4 : e.kind = 4
  · rw [if_pos k4] at h
    unfold lockS at h; split at h
    case isFalse => cases h
    rename_i hc
    cases h
    have hp := places_S (e := e) (V := s.vars) (S := s.n) (by omega) (by omega) hS.1
    have hai : e.at_.toNat < s.sts.length := by omega
    have hst := hstb _ hai
    refine hw.mk' (th := th) hlt (by simp [Sh.setTh, Sh.setSt, htn]; rfl) rfl (clk_same hw) (Or.inr ⟨e.at_.toNat, (e.th, s.ver e.at_), rfl, hai, by simp only; omega, by simp only; rw [ver_getD]; exact hst.2, Or.inl (by rw [← own_getD]; exact hc.2.2)⟩) ?_
    have hn' : ((s.setSt e.at_ (e.th, s.ver e.at_)).setTh e.th { t with at_ := 3, locked := e.at_, owned := setb t.owned e.at_.toNat }).n = s.n := by simp [Sh.n, Sh.setTh, Sh.setSt]
    refine ⟨by simp, by rw [hn']; exact ht.st, fun b hb => ?_, ht.m1, setb_lt ht.m2 (by omega), ht.m3, ht.m4, by simp, fun _ => setb_ne _ _, ht.rvb, ht.wvb, ht.com, ⟨by simp; omega, ht.lck.2.1, by simp; omega, ht.lck.2.2.2⟩⟩
    simp only [testBit_setb, Bool.or_eq_true, decide_eq_true_eq] at hb
    have hl : ((s.setSt e.at_ (e.th, s.ver e.at_)).setTh e.th { t with at_ := 3, locked := e.at_, owned := setb t.owned e.at_.toNat }).sts = s.sts.set e.at_.toNat (e.th, s.ver e.at_) := rfl
    rw [hl, List.length_set]
    by_cases hab : e.at_.toNat = b
    · subst hab; exact ⟨hai, by rw [getD_set_eq _ _ _ _ hai]; exact hthe⟩
    · rw [getD_set_ne _ _ _ _ _ hab]
      rcases hb with hb | hb
      · exact ht.own b hb
      · exact absurd hb hab
  rw [if_neg k4] at h
  by_cases k5 : e.kind = 5
  · rw [if_pos k5] at h
    unfold bumpS at h; split at h
    case isFalse => cases h
    rename_i hc
    cases h
    refine hw.mk' (th := th) hlt (by simp [Sh.setTh, htn]; rfl) rfl ⟨by simp [Sh.setTh]; omega, by simp [Sh.setTh]; omega⟩ (Or.inl rfl) ?_
    have ho := ht.busy (Or.inl hc.1)
    refine ht.same rfl (by simp [Sh.setTh]; omega) rfl (by simp) ht.st ht.m1 ht.m3 (by simp only; split; exact ht.m4; exact ht.m1) (by simp) (fun _ => ho) (Or.inl rfl) (Or.inr (by simp [Sh.setTh]; omega)) ht.com ht.lck
  rw [if_neg k5] at h
  by_cases k6 : e.kind = 6
  · rw [if_pos k6] at h
    unfold checkS at h; split at h
    case isFalse => cases h
    rename_i hc
    cases h
    refine hw.mk' (th := th) hlt (by simp [Sh.setTh, htn]; rfl) rfl (clk_same hw) (Or.inl rfl) ?_
    have ho := ht.busy (Or.inr (Or.inl hc.1))
    exact ht.same rfl (by simp [Sh.setTh]) rfl ht.at0 ht.st ht.m1 ht.m3 (clrb_lt ht.m4) ht.idle ht.busy (Or.inl rfl) (Or.inl rfl) ht.com ht.lck
  rw [if_neg k6] at h
  by_cases k7 : e.kind = 7
  · rw [if_pos k7] at h
    unfold commitS at h; split at h
    · rename_i hc
      cases h
      refine hw.mk' (th := th) hlt (by simp [Sh.setTh, htn]; rfl) rfl (clk_same hw) (Or.inl rfl) ?_
      have ho : t.owned = 0 := ht.idle (Or.inr (Or.inl hc.2))
      exact ht.same rfl (by simp [Sh.setTh]) rfl (by simp) ht.st ht.m1 ht.m3 ht.m4 (fun _ => ho) (by simp) (Or.inl rfl) (Or.inl rfl) (by have := ht.com; simp; omega) ht.lck
    · split at h
      case isFalse => cases h
      rename_i hc
      cases h
      refine hw.mk' (th := th) hlt (by simp [Sh.setTh, htn]; rfl) rfl (clk_same hw) (Or.inl rfl) ?_
      have ho := ht.busy (Or.inr (Or.inl hc.2.1))
      exact ht.same rfl (by simp [Sh.setTh]) rfl (by simp) ht.st ht.m1 ht.m3 ht.m4 (by simp) (fun _ => ho) (Or.inl rfl) (Or.inl rfl) ht.com ht.lck
  rw [if_neg k7] at h
  by_cases k8 : e.kind = 8
  · rw [if_pos k8] at h
    unfold storeS at h; split at h
    case isFalse => cases h
    rename_i hc
    cases h
    refine hw.mk' (th := th) hlt (by simp [Sh.setTh, htn]; rfl) rfl (clk_same hw) (Or.inl rfl) ?_
    have hmod := mod_in (a := e.at_) (n := s.n) (by rw [hsn]; have := hw.size; omega)
    exact ht.same rfl (by simp [Sh.setTh]) rfl ht.at0 ht.st ht.m1 (setb_lt ht.m3 (by have := hw.size; rw [hsn] at *; omega)) ht.m4 ht.idle ht.busy (Or.inl rfl) (Or.inl rfl) ht.com ⟨ht.lck.1, by simp; omega, ht.lck.2.2.1, by simp; omega⟩
  rw [if_neg k8] at h
  by_cases k9 : e.kind = 9
  · rw [if_pos k9] at h
    unfold freedS at h; split at h
    case isFalse => cases h
    rename_i hc
    have hp := places_S (e := e) (V := s.vars) (S := s.n) (by omega) (by omega) hS.1
    have hai : e.at_.toNat < s.sts.length := by omega
    have hbit : t.owned.testBit e.at_.toNat = true := by
      have : e.at_.toNat = leastb t.owned := by omega
      rw [this]; exact leastb_some (by omega)
    have hown := ht.own _ hbit
    have hcase : ∀ t', (t' = { t with at_ := 0, owned := clrb t.owned e.at_.toNat, commits := t.commits + 1 } ∧ clrb t.owned e.at_.toNat = 0) ∨ (t' = { t with at_ := 6, owned := clrb t.owned e.at_.toNat } ∧ clrb t.owned e.at_.toNat ≠ 0) → Wf ((s.setSt e.at_ (-1, t.wv)).setTh e.th t') := by
      intro t' ht'
      refine hw.mk' (th := th) (t' := t') hlt (by simp [Sh.setTh, Sh.setSt, htn]) rfl (clk_same hw) (Or.inr ⟨e.at_.toNat, (-1, t.wv), rfl, hai, ⟨by simp, by simp; omega⟩, by have := ht.wvb; have := hw.clk; simp; omega, Or.inr hown.2⟩) ?_
      have hn' : ((s.setSt e.at_ (-1, t.wv)).setTh e.th t').n = s.n := by simp [Sh.n, Sh.setTh, Sh.setSt]
      have hst : ((s.setSt e.at_ (-1, t.wv)).setTh e.th t').sts = s.sts.set e.at_.toNat (-1, t.wv) := rfl
      have hov : ∀ b, (clrb t.owned e.at_.toNat).testBit b = true → b < s.sts.length ∧ ((s.sts.set e.at_.toNat (-1, t.wv)).getD b (-1, 0)).1 = (th : Int) := by
        intro b hb
        rw [testBit_clrb, Bool.and_eq_true] at hb
        have hne : e.at_.toNat ≠ b := by simpa using hb.2
        rw [getD_set_ne _ _ _ _ _ hne]
        exact ht.own b hb.1
      rcases ht' with ⟨rfl, hz⟩ | ⟨rfl, hz⟩
      · exact ⟨by simp, by rw [hn']; exact ht.st, by rw [hst, List.length_set]; exact hov, ht.m1, clrb_lt ht.m2, ht.m3, ht.m4, fun _ => hz, by simp, ht.rvb, ht.wvb, by have := ht.com; simp; omega, ht.lck⟩
      · exact ⟨by simp, by rw [hn']; exact ht.st, by rw [hst, List.length_set]; exact hov, ht.m1, clrb_lt ht.m2, ht.m3, ht.m4, by simp, fun _ => hz, ht.rvb, ht.wvb, ht.com, ht.lck⟩
    cases h
    split
    · rename_i hz; exact hcase _ (Or.inl ⟨rfl, hz⟩)
    · rename_i hz; exact hcase _ (Or.inr ⟨rfl, hz⟩)
  rw [if_neg k9] at h
  by_cases k10 : e.kind = 10
  · rw [if_pos k10] at h
    unfold abortS at h; split at h
    case isFalse => cases h
    rename_i hc
    cases h
    refine hw.mk' (th := th) hlt (by simp [Sh.setTh, htn]; rfl) rfl (clk_same hw) (Or.inl rfl) ?_
    refine ht.same rfl (by simp [Sh.setTh]) rfl (by simp only; split <;> omega) ht.st ht.m1 ht.m3 ht.m4 (fun hx => ?_) (fun hx => ?_) (Or.inl rfl) (Or.inl rfl) ht.com ht.lck
    · simp only at hx; split at hx
      · assumption
      · omega
    · simp only at hx; split at hx
      · omega
      · assumption
  rw [if_neg k10] at h
  by_cases k11 : e.kind = 11
  · rw [if_pos k11] at h
    unfold undoS at h; split at h
    case isFalse => cases h
    rename_i hc
    have hp := places_S (e := e) (V := s.vars) (S := s.n) (by omega) (by omega) hS.1
    have hai : e.at_.toNat < s.sts.length := by omega
    have hst' := hstb _ hai
    have hbit : t.owned.testBit e.at_.toNat = true := by
      have : e.at_.toNat = leastb t.owned := by omega
      rw [this]; exact leastb_some (by omega)
    have hown := ht.own _ hbit
    cases h
    refine hw.mk' (th := th) hlt (by simp [Sh.setTh, Sh.setSt, htn]; rfl) rfl (clk_same hw) (Or.inr ⟨e.at_.toNat, (-1, s.ver e.at_), rfl, hai, ⟨by simp, by simp; omega⟩, by simp only; rw [ver_getD]; exact hst'.2, Or.inr hown.2⟩) ?_
    have hov : ∀ b, (clrb t.owned e.at_.toNat).testBit b = true → b < (s.sts.set e.at_.toNat (-1, s.ver e.at_)).length ∧ ((s.sts.set e.at_.toNat (-1, s.ver e.at_)).getD b (-1, 0)).1 = (th : Int) := by
      intro b hb
      rw [testBit_clrb, Bool.and_eq_true] at hb
      have hne : e.at_.toNat ≠ b := by simpa using hb.2
      rw [getD_set_ne _ _ _ _ _ hne, List.length_set]
      exact ht.own b hb.1
    refine ⟨by (simp only; split; (split <;> omega); omega), ?_, hov, ht.m1, clrb_lt ht.m2, ht.m3, ht.m4, fun hx => ?_, fun hx => ?_, ht.rvb, ht.wvb, ht.com, ht.lck⟩
    · have hn' : ((s.setSt e.at_ (-1, s.ver e.at_)).setTh e.th { t with at_ := if clrb t.owned e.at_.toNat = 0 then (if t.full then 9 else 0) else 7, owned := clrb t.owned e.at_.toNat }).n = s.n := by simp [Sh.n, Sh.setTh, Sh.setSt]
      rw [hn']; exact ht.st
    · simp only at hx; split at hx
      · assumption
      · omega
    · simp only at hx; split at hx
      · split at hx <;> omega
      · assumption
  rw [if_neg k11] at h
  by_cases k12 : e.kind = 12
  · rw [if_pos k12] at h
    unfold waitS at h; split at h
    case isFalse => cases h
    rename_i hc
    cases h
    refine hw.mk' (th := th) hlt (by simp [Sh.setTh, htn]; rfl) rfl (clk_same hw) (Or.inl rfl) ?_
    have ho : t.owned = 0 := ht.idle (Or.inr (Or.inl hc))
    exact ht.same rfl (by simp [Sh.setTh]) rfl (by simp) ht.st ht.m1 ht.m3 ht.m4 (fun _ => ho) (by simp) (Or.inl rfl) (Or.inl rfl) ht.com ht.lck
  rw [if_neg k12] at h
  unfold wakeS at h; split at h
  case isFalse => cases h
  rename_i hc
  cases h
  refine hw.mk' (th := th) hlt (by simp [Sh.setTh, htn]; rfl) rfl (clk_same hw) (Or.inl rfl) ?_
  have ho : t.owned = 0 := ht.idle (Or.inr (Or.inr (Or.inr (Or.inl hc.1))))
  exact ht.same rfl (by simp [Sh.setTh]) rfl (by simp) ht.st ht.m1 ht.m3 ht.m4 (fun _ => ho) (by simp) (Or.inl rfl) (Or.inl rfl) ht.com ht.lck
end Go.Proofs.YtnblhodhkifeeaaGreatDoor
/-
  The checker's machine: what each step leaves as it was; how many commits; traces in memory. Nothing of the program.
-/
namespace Go.Proofs.YtnblhodhkifeeaaGreatDoor
set_option linter.unusedVariables false
set_option linter.unusedSimpArgs false
theorem doesS_keeps {s s' : Sh} {t : Th} {e : Ev} (h : doesS s t e = some s') : ∃ t', s'.ths = s.ths.set e.th.toNat t' ∧ t'.commits ≤ t.commits + 1 ∧ s'.vars = s.vars ∧ s'.sts.length = s.sts.length := by
  unfold doesS at h
  by_cases k1 : e.kind = 1
  · rw [if_pos k1] at h
    unfold beginS at h; split at h
    · cases h; exact ⟨_, rfl, by simp only []; omega, rfl, rfl⟩
    · cases h
  rw [if_neg k1] at h
  by_cases k2 : e.kind = 2
  · rw [if_pos k2] at h
    unfold lookS at h; split at h
    · cases h; exact ⟨_, rfl, by simp only []; omega, rfl, by simp [Sh.setTh, Sh.setSt]⟩
    · cases h
  rw [if_neg k2] at h
  by_cases k3 : e.kind = 3
  · rw [if_pos k3] at h
    unfold loadS at h; split at h
    · cases h; exact ⟨_, rfl, by simp only []; omega, rfl, rfl⟩
    · cases h
  rw [if_neg k3] at h
  by_cases k4 : e.kind = 4
  · rw [if_pos k4] at h
    unfold lockS at h; split at h
    · cases h; exact ⟨_, rfl, by simp only []; omega, rfl, by simp [Sh.setTh, Sh.setSt]⟩
    · cases h
  rw [if_neg k4] at h
  by_cases k5 : e.kind = 5
  · rw [if_pos k5] at h
    unfold bumpS at h; split at h
    · cases h; exact ⟨_, rfl, by simp only []; omega, rfl, rfl⟩
    · cases h
  rw [if_neg k5] at h
  by_cases k6 : e.kind = 6
  · rw [if_pos k6] at h
    unfold checkS at h; split at h
    · cases h; exact ⟨_, rfl, by simp only []; omega, rfl, rfl⟩
    · cases h
  rw [if_neg k6] at h
  by_cases k7 : e.kind = 7
  · rw [if_pos k7] at h
    unfold commitS at h; split at h
    · cases h; exact ⟨_, rfl, by simp only []; omega, rfl, rfl⟩
    · split at h
      · cases h; exact ⟨_, rfl, by simp only []; omega, rfl, rfl⟩
      · cases h
  rw [if_neg k7] at h
  by_cases k8 : e.kind = 8
  · rw [if_pos k8] at h
    unfold storeS at h; split at h
    · cases h; exact ⟨_, rfl, by simp only []; omega, rfl, rfl⟩
    · cases h
  rw [if_neg k8] at h
  by_cases k9 : e.kind = 9
  · rw [if_pos k9] at h
    unfold freedS at h; split at h
    · cases h; exact ⟨_, rfl, by split <;> simp only [] <;> omega, rfl, by simp [Sh.setTh, Sh.setSt]⟩
    · cases h
  rw [if_neg k9] at h
  by_cases k10 : e.kind = 10
  · rw [if_pos k10] at h
    unfold abortS at h; split at h
    · cases h; exact ⟨_, rfl, by simp only []; omega, rfl, rfl⟩
    · cases h
  rw [if_neg k10] at h
  by_cases k11 : e.kind = 11
  · rw [if_pos k11] at h
    unfold undoS at h; split at h
    · cases h; exact ⟨_, rfl, by simp only []; omega, rfl, by simp [Sh.setTh, Sh.setSt]⟩
    · cases h
  rw [if_neg k11] at h
  by_cases k12 : e.kind = 12
  · rw [if_pos k12] at h
    unfold waitS at h; split at h
    · cases h; exact ⟨_, rfl, by simp only []; omega, rfl, rfl⟩
    · cases h
  rw [if_neg k12] at h
  unfold wakeS at h; split at h
  · cases h; exact ⟨_, rfl, by simp only []; omega, rfl, rfl⟩
  · cases h
theorem stepS_keeps {s s' : Sh} {e : Ev} (h : stepS s e = some s') : ∃ t', s'.ths = s.ths.set e.th.toNat t' ∧ t'.commits ≤ (s.th e.th).commits + 1 ∧ s'.vars = s.vars ∧ s'.sts.length = s.sts.length := by
  unfold stepS at h
  split at h
  · exact doesS_keeps h
  · cases h
def CmB (s : Sh) (n : Nat) : Prop := ∀ i, i < s.ths.length → (s.ths.getD i Th.zero).commits ≤ (n : Int)
theorem CmB.step {s s' : Sh} {e : Ev} {n : Nat} (hc : CmB s n) (h : stepS s e = some s') : CmB s' (n + 1) := by
  obtain ⟨t', h1, h2, -, -⟩ := stepS_keeps h
  intro i hi
  rw [h1] at hi ⊢
  rw [List.length_set] at hi
  by_cases he : e.th.toNat = i
  · subst he
    rw [getD_set_eq _ _ _ _ hi]
    have := hc _ hi
    unfold Sh.th at h2
    omega
  · rw [getD_set_ne _ _ _ _ _ he]
    have := hc _ hi
    omega
theorem newS_cm (T V S : Int) : CmB (newS T V S) 0 := by
  intro i hi
  simp only [newS, List.length_replicate] at hi
  simp [newS, List.getD, List.getElem?_replicate, hi, Th.zero]
structure Behind (T V S : Int) (l : List Ev) (i : Nat) (s : Sh) : Prop where
  run : runS (newS T V S) (l.take i) = some s
  wf : Wf s
  cm : CmB s i
  nt : s.ths.length = T.toNat
  nv : s.vars = V
  ns : s.sts.length = S.toNat
theorem Behind.zero {T V S : Int} (h : sizeOk T V S = true) (l : List Ev) : Behind T V S l 0 (newS T V S) :=
  ⟨rfl, newS_wf h, newS_cm T V S, by simp [newS], rfl, by simp [newS]⟩
theorem Behind.step {T V S : Int} {l : List Ev} {i : Nat} {s s' : Sh} (h : Behind T V S l i s) (hi : i < l.length) (hs : stepS s l[i] = some s') : Behind T V S l (i + 1) s' := by
  obtain ⟨t', h1, -, h3, h4⟩ := stepS_keeps hs
  refine ⟨?_, stepS_wf h.wf hs, h.cm.step hs, by rw [h1, List.length_set]; exact h.nt, by rw [h3]; exact h.nv, by rw [h4]; exact h.ns⟩
  rw [List.take_succ_eq_append_getElem hi, runS_snoc, h.run]; exact hs
theorem comes_append {s s' : Sh} (l m : List Ev) : runS s l = some s' → comesS s (l ++ m) = l.length + comesS s' m := by
  induction l generalizing s with
  | nil => intro h; cases h; simp
  | cons e l ih =>
    intro h
    unfold runS at h
    simp only [List.cons_append, comesS, List.length_cons]
    cases hs : stepS s e with
    | none => rw [hs] at h; cases h
    | some r =>
      rw [hs] at h
      have := ih h
      simp only [this]; omega
theorem Behind.bad {T V S : Int} {l : List Ev} {i : Nat} {s : Sh} (h : Behind T V S l i s) (hi : i < l.length) (hs : stepS s l[i] = none) : comesS (newS T V S) l = i := by
  have e : l = l.take i ++ (l[i] :: l.drop (i + 1)) := by rw [← List.drop_eq_getElem_cons hi, List.take_append_drop]
  conv => lhs; rw [e]
  rw [comes_append _ _ h.run, comesS, hs, List.length_take]
  simp only []; omega
theorem Behind.all {T V S : Int} {l : List Ev} {s : Sh} (h : Behind T V S l l.length s) : comesS (newS T V S) l = l.length := by
  have := h.run
  rw [List.take_length] at this
  rw [comes_iff, this]; rfl
theorem checkT_size {T V S : Int} {l : List Ev} (h : sizeOk T V S = false) : checkT T V S l = (0, 1) := by unfold checkT; rw [if_pos h]
theorem checkT_great {T V S : Int} {l : List Ev} (h : sizeOk T V S = true) (hl : 1048576 < l.length) : checkT T V S l = (0, 40) := by unfold checkT; rw [if_neg (by rw [h]; decide), if_pos hl]
theorem Behind.checkT_bad {T V S : Int} {l : List Ev} {i : Nat} {s : Sh} (h : Behind T V S l i s) (hz : sizeOk T V S = true) (hl : l.length ≤ 1048576) (hi : i < l.length) (hs : stepS s l[i] = none) : checkT T V S l = ((i : Int), 4) := by
  unfold checkT; rw [if_neg (by rw [hz]; decide), if_neg (by omega), h.bad hi hs, if_pos hi]
theorem Behind.checkT_all {T V S : Int} {l : List Ev} {s : Sh} (h : Behind T V S l l.length s) (hz : sizeOk T V S = true) (hl : l.length ≤ 1048576) : checkT T V S l = ((l.length : Int), 0) := by
  unfold checkT; rw [if_neg (by rw [hz]; decide), if_neg (by omega), h.all, if_neg (by omega)]
end Go.Proofs.YtnblhodhkifeeaaGreatDoor
/-
  Events as bytes, plainly: what a coder knows, what it writes, what it reads; and that what is written is read so. Nothing of the program.
-/
namespace Go.Proofs.YtnblhodhkifeeaaGreatDoor
set_option linter.unusedVariables false
structure Cdr where
  last : Int
  clock : Int
  begun : Int → Int
  bumped : Int → Int
  x : Int → Int
def newC : Cdr := ⟨0, 0, fun _ => 0, fun _ => 0, fun _ => 0⟩
def upd (f : Int → Int) (k v : Int) : Int → Int := fun j => if j = k then v else f j
def knowsC (c : Cdr) (e : Ev) : Cdr :=
  if e.kind = 1 then { c with last := e.th, clock := e.v, begun := upd c.begun e.th e.v }
  else if e.kind = 5 then { c with last := e.th, clock := e.v, bumped := upd c.bumped e.th e.v }
  else if e.kind = 3 ∨ e.kind = 8 then { c with last := e.th, x := upd c.x e.at_ e.x }
  else { c with last := e.th }
def tellsC (T V S : Int) (c : Cdr) (e : Ev) : Bool :=
  mayE e T V S && (if e.kind = 1 then decide (c.clock ≤ e.v) else if e.kind = 2 then decide (e.v ≤ c.begun e.th) else if e.kind = 5 then decide (c.clock < e.v) else if e.kind = 7 then decide (e.v = 0 ∨ e.v = c.bumped e.th) else true)
def w64 (n : Int) : Int := (n + 9223372036854775808) % 18446744073709551616 - 9223372036854775808
def zigZ (x : Int) : Nat := if 0 ≤ x then (2 * x).toNat else (-2 * x - 1).toNat
def zagZ (n : Nat) : Int := if n % 2 = 0 then (n / 2 : Nat) else -((n / 2 : Nat) : Int) - 1
theorem zag_zig (x : Int) : zagZ (zigZ x) = x := by
  unfold zagZ zigZ
  split <;> split <;> omega
theorem zig_zag (n : Nat) : zigZ (zagZ n) = n := by
  unfold zagZ zigZ
  split <;> split <;> omega
theorem zig_lt (x : Int) (h : -9223372036854775808 ≤ x ∧ x ≤ 9223372036854775807) : zigZ x < 18446744073709551616 := by
  unfold zigZ; split <;> omega
theorem zag_ok (n : Nat) (h : n < 18446744073709551616) : -9223372036854775808 ≤ zagZ n ∧ zagZ n ≤ 9223372036854775807 := by
  unfold zagZ; split <;> omega
def firstC (T : Int) (c : Cdr) (e : Ev) : Int := (e.kind - 1) * T + (e.th - c.last + T) % T
def numsC (c : Cdr) (e : Ev) : List Nat :=
  if e.kind = 1 then [e.tx.toNat, (e.v - c.clock).toNat] else if e.kind = 2 then [e.at_.toNat, (c.begun e.th - e.v).toNat]
  else if e.kind = 3 ∨ e.kind = 8 then [e.at_.toNat, zigZ (w64 (e.x - c.x e.at_))] else if e.kind = 4 ∨ e.kind = 6 ∨ e.kind = 9 ∨ e.kind = 11 then [e.at_.toNat]
  else if e.kind = 5 then [(e.v - c.clock).toNat] else if e.kind = 7 then [if e.v = 0 then 0 else 1] else if e.kind = 10 then (e.why - 1).toNat :: (if e.why = 6 then [] else [e.at_.toNat]) else []
def bytesC (T : Int) (c : Cdr) (e : Ev) : List Nat := ((firstC T c e).toNat :: numsC c e).flatMap putN
structure Rdr where
  s : List Nat
  at_ : Nat
  err : Nat
def numR (r : Rdr) (most : Nat) : Nat × Rdr :=
  if r.err ≠ 0 then (0, r) else match getN (r.s.drop r.at_) with
  | (n, size, e) => if e ≠ 0 then (0, { r with err := e }) else if most < n then (0, { r with err := 20 }) else (n, { r with at_ := r.at_ + size })
def failR (r : Rdr) (place : Nat) : Rdr := if r.err ≠ 0 then r else { r with at_ := place, err := 20 }
def maxU : Nat := 18446744073709551615
def maxClockN : Int := 1099511627776
def lineR (T V S : Int) (c : Cdr) (r : Rdr) : Ev × Rdr :=
  let a := numR r (13 * T - 1).toNat
  let k := (a.1 : Int) / T + 1
  let th := ((a.1 : Int) % T + c.last) % T
  if k = 1 then let b := numR a.2 5; let d := numR b.2 (maxClockN - c.clock).toNat; (⟨k, th, b.1, 0, c.clock + d.1, 0, 0⟩, d.2)
  else if k = 2 then let b := numR a.2 (S - 1).toNat; let d := numR b.2 (c.begun th).toNat; (⟨k, th, 0, b.1, c.begun th - d.1, 0, 0⟩, d.2)
  else if k = 3 ∨ k = 8 then let b := numR a.2 (V - 1).toNat; let d := numR b.2 maxU; (⟨k, th, 0, b.1, 0, w64 (c.x b.1 + zagZ d.1), 0⟩, d.2)
  else if k = 4 ∨ k = 6 ∨ k = 9 ∨ k = 11 then let b := numR a.2 (S - 1).toNat; (⟨k, th, 0, b.1, 0, 0, 0⟩, b.2)
  else if k = 5 then let b := numR a.2 (maxClockN - c.clock).toNat; (⟨k, th, 0, 0, c.clock + b.1, 0, 0⟩, if b.1 = 0 then failR b.2 a.2.at_ else b.2)
  else if k = 7 then let b := numR a.2 1; if b.1 = 0 then (⟨k, th, 0, 0, 0, 0, 0⟩, b.2) else (⟨k, th, 0, 0, c.bumped th, 0, 0⟩, if c.bumped th = 0 then failR b.2 a.2.at_ else b.2)
  else if k = 10 then let b := numR a.2 5; if b.1 + 1 = 6 then (⟨k, th, 0, 0, 0, 0, b.1 + 1⟩, b.2) else let d := numR b.2 (S - 1).toNat; (⟨k, th, 0, d.1, 0, 0, b.1 + 1⟩, d.2)
  else (⟨k, th, 0, 0, 0, 0, 0⟩, a.2)
def readC (T V S : Int) (c : Cdr) (r : Rdr) : Ev × Nat × Rdr × Cdr :=
  let a := lineR T V S c r
  if a.2.err ≠ 0 then (⟨0, 0, 0, 0, 0, 0, 0⟩, a.2.err, a.2, c) else (a.1, 0, a.2, knowsC c a.1)
structure OkC (T : Int) (c : Cdr) : Prop where
  last : 0 ≤ c.last ∧ c.last < T
  clock : 0 ≤ c.clock ∧ c.clock ≤ maxClockN
  begun : ∀ t, 0 ≤ c.begun t ∧ c.begun t ≤ maxClockN
  bumped : ∀ t, 0 ≤ c.bumped t ∧ c.bumped t ≤ maxClockN
  xs : ∀ k, -9223372036854775808 ≤ c.x k ∧ c.x k ≤ 9223372036854775807
theorem okC_new {T : Int} (h : 1 ≤ T) : OkC T newC where
  last := ⟨by decide, by show (0 : Int) < T; omega⟩
  clock := ⟨by decide, by decide⟩
  begun _ := ⟨by show (0 : Int) ≤ 0; omega, by show (0 : Int) ≤ 1099511627776; omega⟩
  bumped _ := ⟨by show (0 : Int) ≤ 0; omega, by show (0 : Int) ≤ 1099511627776; omega⟩
  xs _ := ⟨by show (-9223372036854775808 : Int) ≤ 0; omega, by show (0 : Int) ≤ 9223372036854775807; omega⟩
theorem upd_ok {f : Int → Int} {k v a b : Int} (h : ∀ j, a ≤ f j ∧ f j ≤ b) (hv : a ≤ v ∧ v ≤ b) : ∀ j, a ≤ upd f k v j ∧ upd f k v j ≤ b := by
  intro j; unfold upd; split
  · exact hv
  · exact h j
theorem num_at {s pre rest : List Nat} {n most : Nat} (hs : s = pre ++ (putN n ++ rest)) (h : n ≤ most) (hn : n < 18446744073709551616) : numR ⟨s, pre.length, 0⟩ most = (n, ⟨s, (pre ++ putN n).length, 0⟩) := by
  subst hs
  unfold numR
  rw [if_neg (by simp)]
  dsimp only
  rw [List.drop_left, get_put n rest hn]
  dsimp only
  rw [if_neg (by simp), if_neg (by omega), List.length_append]
theorem may_sizes' {e : Ev} {T V S : Int} (h : mayE e T V S = true) : (1 ≤ T ∧ T ≤ 6 ∧ 1 ≤ V ∧ V ≤ 32 ∧ 1 ≤ S ∧ S ≤ V) ∧ (1 ≤ e.kind ∧ e.kind ≤ 13 ∧ (e.kind = 10 → 1 ≤ e.why ∧ e.why ≤ 6) ∧ 0 ≤ e.th ∧ e.th < T ∧ 0 ≤ e.tx ∧ e.tx ≤ 5 ∧ leastV e ≤ e.v ∧ e.v ≤ 1099511627776 ∧ 0 ≤ e.at_ ∧ e.at_ < placesE e V S) ∧ e = bareE e := by
  unfold mayE at h
  simp only [Bool.and_eq_true, sizesB, decide_eq_true_eq] at h
  exact ⟨h.1.1, h.1.2, Ev.ext' h.2.1 h.2.2.1 h.2.2.2.1 h.2.2.2.2.1 h.2.2.2.2.2.1 h.2.2.2.2.2.2.1 h.2.2.2.2.2.2.2⟩
theorem first_ok {T k th last : Int} (hT : 1 ≤ T ∧ T ≤ 6) (hk : 1 ≤ k ∧ k ≤ 13) (ht : 0 ≤ th ∧ th < T) (hl : 0 ≤ last ∧ last < T) :
    0 ≤ (k - 1) * T + (th - last + T) % T ∧ (k - 1) * T + (th - last + T) % T ≤ 13 * T - 1 ∧ ((k - 1) * T + (th - last + T) % T) / T + 1 = k ∧ (((k - 1) * T + (th - last + T) % T) % T + last) % T = th := by
  have : T = 1 ∨ T = 2 ∨ T = 3 ∨ T = 4 ∨ T = 5 ∨ T = 6 := by omega
  rcases this with rfl | rfl | rfl | rfl | rfl | rfl <;> omega
theorem w64_back (x y : Int) (hx : -9223372036854775808 ≤ x ∧ x ≤ 9223372036854775807) : w64 (y + w64 (x - y)) = x := by
  unfold w64; omega
theorem w64_ok (x : Int) : -9223372036854775808 ≤ w64 x ∧ w64 x ≤ 9223372036854775807 := by unfold w64; omega
theorem read_bytes {T V S : Int} {c : Cdr} {e : Ev} {pre rest : List Nat} (hc : OkC T c) (ht : tellsC T V S c e = true) (hx : -9223372036854775808 ≤ e.x ∧ e.x ≤ 9223372036854775807) :
    readC T V S c ⟨pre ++ (bytesC T c e ++ rest), pre.length, 0⟩ = (e, 0, ⟨pre ++ (bytesC T c e ++ rest), (pre ++ bytesC T c e).length, 0⟩, knowsC c e) := by
  have ht0 := ht
  unfold tellsC at ht
  rw [Bool.and_eq_true] at ht
  obtain ⟨hm, hk2⟩ := ht
  obtain ⟨hs, ⟨k1, k2, hw, t1, t2, x1, x2, v1, v2, a1, a2⟩, hb⟩ := may_sizes' hm
  obtain ⟨f1, f2, f3, f4⟩ := first_ok (T := T) (k := e.kind) (th := e.th) (last := c.last) ⟨by omega, by omega⟩ ⟨k1, k2⟩ ⟨t1, t2⟩ hc.last
  have hcl := hc.clock
  have hbg := hc.begun e.th
  have hbu := hc.bumped e.th
  unfold maxClockN at hcl hbg hbu
  suffices hline : lineR T V S c ⟨pre ++ (bytesC T c e ++ rest), pre.length, 0⟩ = (e, ⟨pre ++ (bytesC T c e ++ rest), (pre ++ bytesC T c e).length, 0⟩) by
    unfold readC
    rw [hline]
    simp
  obtain ⟨n, hn⟩ : ∃ n : Nat, firstC T c e = (n : Int) := Int.eq_ofNat_of_zero_le f1
  have hn1 : firstC T c e = (e.kind - 1) * T + (e.th - c.last + T) % T := rfl
  rw [← hn1, hn] at f2 f3 f4
  have hbytes : bytesC T c e = putN n ++ (numsC c e).flatMap putN := by
    unfold bytesC; rw [hn, Int.toNat_natCast, List.flatMap_cons]
  rw [hbytes]
  generalize hs0 : pre ++ (putN n ++ (numsC c e).flatMap putN ++ rest) = s
  have h1 : numR ⟨s, pre.length, 0⟩ (13 * T - 1).toNat = (n, ⟨s, (pre ++ putN n).length, 0⟩) := num_at (rest := (numsC c e).flatMap putN ++ rest) (by rw [← hs0, List.append_assoc]) (by omega) (by omega)
  unfold lineR
  rw [h1]
  dsimp only
  rw [f3, f4]
  unfold leastV placesE at *
  obtain ⟨kind, th, tx, at_, v, x, why⟩ := e
  dsimp only at *
  have hc13 : kind = 1 ∨ kind = 2 ∨ kind = 3 ∨ kind = 4 ∨ kind = 5 ∨ kind = 6 ∨ kind = 7 ∨ kind = 8 ∨ kind = 9 ∨ kind = 10 ∨ kind = 11 ∨ kind = 12 ∨ kind = 13 := by omega
  clear f1 f2 f3 f4 hn hn1 hbytes ht0 hm h1
  rcases hc13 with rfl | rfl | rfl | rfl | rfl | rfl | rfl | rfl | rfl | rfl | rfl | rfl | rfl
  · unfold bareE at hb
    simp at hb hk2 v1 a2
    have hnum : numsC c ⟨1, th, tx, at_, v, x, why⟩ = [tx.toNat, (v - c.clock).toNat] := rfl
    rw [hnum] at hs0 ⊢
    rw [if_pos (by decide)]
    have g0 : numR ⟨s, (pre ++ putN n).length, 0⟩ (5) = (tx.toNat, ⟨s, ((pre ++ putN n) ++ putN (tx.toNat)).length, 0⟩) := num_at (rest := putN ((v - c.clock).toNat) ++ rest) (by rw [← hs0]; simp) (by omega) (by omega)
    rw [g0]
    dsimp only
    have g1 : numR ⟨s, ((pre ++ putN n) ++ putN (tx.toNat)).length, 0⟩ ((maxClockN - c.clock).toNat) = ((v - c.clock).toNat, ⟨s, (((pre ++ putN n) ++ putN (tx.toNat)) ++ putN ((v - c.clock).toNat)).length, 0⟩) := num_at (rest := rest) (by rw [← hs0]; simp) (by unfold maxClockN; omega) (by omega)
    rw [g1]
    dsimp only
    refine Prod.ext (Ev.ext' rfl rfl ?_ ?_ ?_ ?_ ?_) (by simp)
    all_goals (first | rfl | omega | (dsimp only; omega))
  · unfold bareE at hb
    simp at hb hk2 v1 a2
    have hnum : numsC c ⟨2, th, tx, at_, v, x, why⟩ = [at_.toNat, (c.begun th - v).toNat] := rfl
    rw [hnum] at hs0 ⊢
    rw [if_neg (by decide), if_pos (by decide)]
    have g0 : numR ⟨s, (pre ++ putN n).length, 0⟩ ((S - 1).toNat) = (at_.toNat, ⟨s, ((pre ++ putN n) ++ putN (at_.toNat)).length, 0⟩) := num_at (rest := putN ((c.begun th - v).toNat) ++ rest) (by rw [← hs0]; simp) (by omega) (by omega)
    rw [g0]
    dsimp only
    have g1 : numR ⟨s, ((pre ++ putN n) ++ putN (at_.toNat)).length, 0⟩ ((c.begun th).toNat) = ((c.begun th - v).toNat, ⟨s, (((pre ++ putN n) ++ putN (at_.toNat)) ++ putN ((c.begun th - v).toNat)).length, 0⟩) := num_at (rest := rest) (by rw [← hs0]; simp) (by omega) (by omega)
    rw [g1]
    dsimp only
    refine Prod.ext (Ev.ext' rfl rfl ?_ ?_ ?_ ?_ ?_) (by simp)
    all_goals (first | rfl | omega | (dsimp only; omega))
  · unfold bareE at hb
    simp at hb hk2 v1 a2
    have hnum : numsC c ⟨3, th, tx, at_, v, x, why⟩ = [at_.toNat, zigZ (w64 (x - c.x at_))] := rfl
    rw [hnum] at hs0 ⊢
    rw [if_neg (by decide), if_neg (by decide), if_pos (by decide)]
    have ea : ((at_.toNat : Nat) : Int) = at_ := by omega
    have g0 : numR ⟨s, (pre ++ putN n).length, 0⟩ ((V - 1).toNat) = (at_.toNat, ⟨s, ((pre ++ putN n) ++ putN (at_.toNat)).length, 0⟩) := num_at (rest := putN (zigZ (w64 (x - c.x at_))) ++ rest) (by rw [← hs0]; simp) (by omega) (by omega)
    rw [g0]
    dsimp only
    have g1 : numR ⟨s, ((pre ++ putN n) ++ putN (at_.toNat)).length, 0⟩ (maxU) = (zigZ (w64 (x - c.x at_)), ⟨s, (((pre ++ putN n) ++ putN (at_.toNat)) ++ putN (zigZ (w64 (x - c.x at_)))).length, 0⟩) := num_at (rest := rest) (by rw [← hs0]; simp) (by have := zig_lt _ (w64_ok (x - c.x at_)); unfold maxU; omega) (zig_lt _ (w64_ok _))
    rw [g1]
    dsimp only
    rw [ea, zag_zig, w64_back x _ hx]
    refine Prod.ext (Ev.ext' rfl rfl ?_ ?_ ?_ ?_ ?_) (by simp)
    all_goals (first | rfl | omega | (dsimp only; omega))
  · unfold bareE at hb
    simp at hb hk2 v1 a2
    have hnum : numsC c ⟨4, th, tx, at_, v, x, why⟩ = [at_.toNat] := rfl
    rw [hnum] at hs0 ⊢
    rw [if_neg (by decide), if_neg (by decide), if_neg (by decide), if_pos (by decide)]
    have g0 : numR ⟨s, (pre ++ putN n).length, 0⟩ ((S - 1).toNat) = (at_.toNat, ⟨s, ((pre ++ putN n) ++ putN (at_.toNat)).length, 0⟩) := num_at (rest := rest) (by rw [← hs0]; simp) (by omega) (by omega)
    rw [g0]
    dsimp only
    refine Prod.ext (Ev.ext' rfl rfl ?_ ?_ ?_ ?_ ?_) (by simp)
    all_goals (first | rfl | omega | (dsimp only; omega))
  · unfold bareE at hb
    simp at hb hk2 v1 a2
    have hnum : numsC c ⟨5, th, tx, at_, v, x, why⟩ = [(v - c.clock).toNat] := rfl
    rw [hnum] at hs0 ⊢
    rw [if_neg (by decide), if_neg (by decide), if_neg (by decide), if_neg (by decide), if_pos (by decide)]
    have g0 : numR ⟨s, (pre ++ putN n).length, 0⟩ ((maxClockN - c.clock).toNat) = ((v - c.clock).toNat, ⟨s, ((pre ++ putN n) ++ putN ((v - c.clock).toNat)).length, 0⟩) := num_at (rest := rest) (by rw [← hs0]; simp) (by unfold maxClockN; omega) (by omega)
    rw [g0]
    dsimp only
    rw [if_neg (by omega)]
    refine Prod.ext (Ev.ext' rfl rfl ?_ ?_ ?_ ?_ ?_) (by simp)
    all_goals (first | rfl | omega | (dsimp only; omega))
  · unfold bareE at hb
    simp at hb hk2 v1 a2
    have hnum : numsC c ⟨6, th, tx, at_, v, x, why⟩ = [at_.toNat] := rfl
    rw [hnum] at hs0 ⊢
    rw [if_neg (by decide), if_neg (by decide), if_neg (by decide), if_pos (by decide)]
    have g0 : numR ⟨s, (pre ++ putN n).length, 0⟩ ((S - 1).toNat) = (at_.toNat, ⟨s, ((pre ++ putN n) ++ putN (at_.toNat)).length, 0⟩) := num_at (rest := rest) (by rw [← hs0]; simp) (by omega) (by omega)
    rw [g0]
    dsimp only
    refine Prod.ext (Ev.ext' rfl rfl ?_ ?_ ?_ ?_ ?_) (by simp)
    all_goals (first | rfl | omega | (dsimp only; omega))
  · unfold bareE at hb
    simp at hb hk2 v1 a2
    have hnum : numsC c ⟨7, th, tx, at_, v, x, why⟩ = [if v = 0 then 0 else 1] := rfl
    rw [hnum] at hs0 ⊢
    rw [if_neg (by decide), if_neg (by decide), if_neg (by decide), if_neg (by decide), if_neg (by decide), if_pos (by decide)]
    by_cases hv : v = 0
    · rw [if_pos hv] at hs0 ⊢
      have g0 : numR ⟨s, (pre ++ putN n).length, 0⟩ (1) = (0, ⟨s, ((pre ++ putN n) ++ putN (0)).length, 0⟩) := num_at (rest := rest) (by rw [← hs0]; simp) (by omega) (by omega)
      rw [g0]
      dsimp only
      rw [if_pos rfl]
      refine Prod.ext (Ev.ext' rfl rfl ?_ ?_ ?_ ?_ ?_) (by simp)
      all_goals (first | rfl | omega | (dsimp only; omega))
    · rw [if_neg hv] at hs0 ⊢
      have g0 : numR ⟨s, (pre ++ putN n).length, 0⟩ (1) = (1, ⟨s, ((pre ++ putN n) ++ putN (1)).length, 0⟩) := num_at (rest := rest) (by rw [← hs0]; simp) (by omega) (by omega)
      rw [g0]
      dsimp only
      rw [if_neg (by decide), if_neg (by omega)]
      refine Prod.ext (Ev.ext' rfl rfl ?_ ?_ ?_ ?_ ?_) (by simp)
      all_goals (first | rfl | omega | (dsimp only; omega))
  · unfold bareE at hb
    simp at hb hk2 v1 a2
    have hnum : numsC c ⟨8, th, tx, at_, v, x, why⟩ = [at_.toNat, zigZ (w64 (x - c.x at_))] := rfl
    rw [hnum] at hs0 ⊢
    rw [if_neg (by decide), if_neg (by decide), if_pos (by decide)]
    have ea : ((at_.toNat : Nat) : Int) = at_ := by omega
    have g0 : numR ⟨s, (pre ++ putN n).length, 0⟩ ((V - 1).toNat) = (at_.toNat, ⟨s, ((pre ++ putN n) ++ putN (at_.toNat)).length, 0⟩) := num_at (rest := putN (zigZ (w64 (x - c.x at_))) ++ rest) (by rw [← hs0]; simp) (by omega) (by omega)
    rw [g0]
    dsimp only
    have g1 : numR ⟨s, ((pre ++ putN n) ++ putN (at_.toNat)).length, 0⟩ (maxU) = (zigZ (w64 (x - c.x at_)), ⟨s, (((pre ++ putN n) ++ putN (at_.toNat)) ++ putN (zigZ (w64 (x - c.x at_)))).length, 0⟩) := num_at (rest := rest) (by rw [← hs0]; simp) (by have := zig_lt _ (w64_ok (x - c.x at_)); unfold maxU; omega) (zig_lt _ (w64_ok _))
    rw [g1]
    dsimp only
    rw [ea, zag_zig, w64_back x _ hx]
    refine Prod.ext (Ev.ext' rfl rfl ?_ ?_ ?_ ?_ ?_) (by simp)
    all_goals (first | rfl | omega | (dsimp only; omega))
  · unfold bareE at hb
    simp at hb hk2 v1 a2
    have hnum : numsC c ⟨9, th, tx, at_, v, x, why⟩ = [at_.toNat] := rfl
    rw [hnum] at hs0 ⊢
    rw [if_neg (by decide), if_neg (by decide), if_neg (by decide), if_pos (by decide)]
    have g0 : numR ⟨s, (pre ++ putN n).length, 0⟩ ((S - 1).toNat) = (at_.toNat, ⟨s, ((pre ++ putN n) ++ putN (at_.toNat)).length, 0⟩) := num_at (rest := rest) (by rw [← hs0]; simp) (by omega) (by omega)
    rw [g0]
    dsimp only
    refine Prod.ext (Ev.ext' rfl rfl ?_ ?_ ?_ ?_ ?_) (by simp)
    all_goals (first | rfl | omega | (dsimp only; omega))
  · unfold bareE at hb
    simp at hb hk2 v1 a2
    have hw := hw rfl
    have hnum : numsC c ⟨10, th, tx, at_, v, x, why⟩ = (why - 1).toNat :: (if why = 6 then [] else [at_.toNat]) := rfl
    rw [hnum] at hs0 ⊢
    rw [if_neg (by decide), if_neg (by decide), if_neg (by decide), if_neg (by decide), if_neg (by decide), if_neg (by decide), if_pos (by decide)]
    by_cases hv : why = 6
    · rw [if_pos hv] at hs0 ⊢
      have g0 : numR ⟨s, (pre ++ putN n).length, 0⟩ (5) = ((why - 1).toNat, ⟨s, ((pre ++ putN n) ++ putN ((why - 1).toNat)).length, 0⟩) := num_at (rest := rest) (by rw [← hs0]; simp) (by omega) (by omega)
      rw [g0]
      dsimp only
      rw [if_pos (by omega)]
      refine Prod.ext (Ev.ext' rfl rfl ?_ ?_ ?_ ?_ ?_) (by simp)
      all_goals (first | rfl | omega | (dsimp only; omega))
    · rw [if_neg hv] at hs0 ⊢
      have g0 : numR ⟨s, (pre ++ putN n).length, 0⟩ (5) = ((why - 1).toNat, ⟨s, ((pre ++ putN n) ++ putN ((why - 1).toNat)).length, 0⟩) := num_at (rest := putN at_.toNat ++ rest) (by rw [← hs0]; simp) (by omega) (by omega)
      rw [g0]
      dsimp only
      rw [if_neg (by omega)]
      have g1 : numR ⟨s, ((pre ++ putN n) ++ putN ((why - 1).toNat)).length, 0⟩ ((S - 1).toNat) = (at_.toNat, ⟨s, (((pre ++ putN n) ++ putN ((why - 1).toNat)) ++ putN (at_.toNat)).length, 0⟩) := num_at (rest := rest) (by rw [← hs0]; simp) (by omega) (by omega)
      rw [g1]
      dsimp only
      refine Prod.ext (Ev.ext' rfl rfl ?_ ?_ ?_ ?_ ?_) (by simp)
      all_goals (first | rfl | omega | (dsimp only; omega))
  · unfold bareE at hb
    simp at hb hk2 v1 a2
    have hnum : numsC c ⟨11, th, tx, at_, v, x, why⟩ = [at_.toNat] := rfl
    rw [hnum] at hs0 ⊢
    rw [if_neg (by decide), if_neg (by decide), if_neg (by decide), if_pos (by decide)]
    have g0 : numR ⟨s, (pre ++ putN n).length, 0⟩ ((S - 1).toNat) = (at_.toNat, ⟨s, ((pre ++ putN n) ++ putN (at_.toNat)).length, 0⟩) := num_at (rest := rest) (by rw [← hs0]; simp) (by omega) (by omega)
    rw [g0]
    dsimp only
    refine Prod.ext (Ev.ext' rfl rfl ?_ ?_ ?_ ?_ ?_) (by simp)
    all_goals (first | rfl | omega | (dsimp only; omega))
  · unfold bareE at hb
    simp at hb hk2 v1 a2
    have hnum : numsC c ⟨12, th, tx, at_, v, x, why⟩ = [] := rfl
    rw [hnum] at hs0 ⊢
    rw [if_neg (by decide), if_neg (by decide), if_neg (by decide), if_neg (by decide), if_neg (by decide), if_neg (by decide), if_neg (by decide)]
    refine Prod.ext (Ev.ext' rfl rfl ?_ ?_ ?_ ?_ ?_) (by simp)
    all_goals (first | rfl | omega | (dsimp only; omega))
  · unfold bareE at hb
    simp at hb hk2 v1 a2
    have hnum : numsC c ⟨13, th, tx, at_, v, x, why⟩ = [] := rfl
    rw [hnum] at hs0 ⊢
    rw [if_neg (by decide), if_neg (by decide), if_neg (by decide), if_neg (by decide), if_neg (by decide), if_neg (by decide), if_neg (by decide)]
    refine Prod.ext (Ev.ext' rfl rfl ?_ ?_ ?_ ?_ ?_) (by simp)
    all_goals (first | rfl | omega | (dsimp only; omega))
end Go.Proofs.YtnblhodhkifeeaaGreatDoor
/-
  More of events as bytes: what a coder knows stays in bounds; how long an event's bytes are; a number that was read. Nothing of the program.
-/
namespace Go.Proofs.YtnblhodhkifeeaaGreatDoor
set_option linter.unusedVariables false
theorem okC_knows {T V S : Int} {c : Cdr} {e : Ev} (hc : OkC T c) (ht : tellsC T V S c e = true) (hx : -9223372036854775808 ≤ e.x ∧ e.x ≤ 9223372036854775807) : OkC T (knowsC c e) := by
  unfold tellsC at ht
  rw [Bool.and_eq_true] at ht
  obtain ⟨hm, hk2⟩ := ht
  obtain ⟨hs, ⟨k1, k2, hw, t1, t2, x1, x2, v1, v2, a1, a2⟩, hb⟩ := may_sizes' hm
  have hl : 0 ≤ leastV e := by unfold leastV; split <;> omega
  have hv : 0 ≤ e.v ∧ e.v ≤ maxClockN := by unfold maxClockN; omega
  unfold knowsC
  split
  · exact ⟨⟨t1, t2⟩, hv, upd_ok hc.begun hv, hc.bumped, hc.xs⟩
  · split
    · exact ⟨⟨t1, t2⟩, hv, hc.begun, upd_ok hc.bumped hv, hc.xs⟩
    · split
      · exact ⟨⟨t1, t2⟩, hc.clock, hc.begun, hc.bumped, upd_ok hc.xs hx⟩
      · exact ⟨⟨t1, t2⟩, hc.clock, hc.begun, hc.bumped, hc.xs⟩
theorem putN_ten (n : Nat) : (putN n).length ≤ 10 := putF_len 10 n
theorem putN_one (n : Nat) (h : n < 128) : (putN n).length = 1 := by
  unfold putN putF
  rw [if_pos h]; rfl
theorem flat_two {a b : Nat} {k : Nat} (h1 : (putN a).length ≤ 1) (h2 : (putN b).length ≤ k) : ([a, b].flatMap putN).length ≤ 1 + k := by
  simp only [List.flatMap_cons, List.flatMap_nil, List.append_nil, List.length_append]
  omega
theorem bytes_len {T V S : Int} {c : Cdr} {e : Ev} (hc : OkC T c) (ht : tellsC T V S c e = true) : 1 ≤ (bytesC T c e).length ∧ (bytesC T c e).length ≤ 12 := by
  unfold tellsC at ht
  rw [Bool.and_eq_true] at ht
  obtain ⟨hm, hk2⟩ := ht
  obtain ⟨hs, ⟨k1, k2, hw, t1, t2, x1, x2, v1, v2, a1, a2⟩, hb⟩ := may_sizes' hm
  obtain ⟨f1, f2, -, -⟩ := first_ok (T := T) (k := e.kind) (th := e.th) (last := c.last) ⟨by omega, by omega⟩ ⟨k1, k2⟩ ⟨t1, t2⟩ hc.last
  have hn1 : firstC T c e = (e.kind - 1) * T + (e.th - c.last + T) % T := rfl
  rw [← hn1] at f1 f2
  have hcl := hc.clock
  have hbg := hc.begun e.th
  unfold maxClockN at hcl hbg
  have h1 : (putN (firstC T c e).toNat).length = 1 := putN_one _ (by omega)
  have hp : placesE e V S ≤ 32 := by unfold placesE; split <;> (try split) <;> omega
  have ha : (putN e.at_.toNat).length ≤ 1 := by rw [putN_one _ (by omega)]; omega
  have hl : 0 ≤ leastV e := by unfold leastV; split <;> omega
  have hrest : ((numsC c e).flatMap putN).length ≤ 11 := by
    unfold numsC
    split
    · exact flat_two (by rw [putN_one _ (by omega)]; omega) (putN_ten _)
    · split
      · exact flat_two ha (putN_ten _)
      · split
        · exact flat_two ha (putN_ten _)
        · split
          · simp only [List.flatMap_cons, List.flatMap_nil, List.append_nil]; omega
          · split
            · simp only [List.flatMap_cons, List.flatMap_nil, List.append_nil]; have := putN_ten (e.v - c.clock).toNat; omega
            · split
              · simp only [List.flatMap_cons, List.flatMap_nil, List.append_nil]; have := putN_ten (if e.v = 0 then 0 else 1); omega
              · split
                · rename_i h10
                  have := hw h10
                  have hy : (putN (e.why - 1).toNat).length ≤ 1 := by rw [putN_one _ (by omega)]; omega
                  split
                  · simp only [List.flatMap_cons, List.flatMap_nil, List.append_nil]; omega
                  · exact Nat.le_trans (flat_two hy ha) (by omega)
                · simp
  unfold bytesC
  rw [List.flatMap_cons, List.length_append]
  omega
theorem numR_err {r : Rdr} {m : Nat} (h : r.err ≠ 0) : numR r m = (0, r) := by unfold numR; rw [if_pos h]
theorem num_back {s : List Nat} {at_ most n : Nat} {r' : Rdr} (hs : ∀ b ∈ s, b < 256) (h : numR ⟨s, at_, 0⟩ most = (n, r')) (he : r'.err = 0) :
    r' = ⟨s, at_ + (putN n).length, 0⟩ ∧ (s.drop at_).take (putN n).length = putN n ∧ n ≤ most ∧ n < 18446744073709551616 ∧ at_ + (putN n).length ≤ max at_ s.length := by
  unfold numR at h
  rw [if_neg (by simp)] at h
  dsimp only at h
  obtain ⟨⟨n0, size, e⟩, hg⟩ : ∃ x, getN (s.drop at_) = x := ⟨_, rfl⟩
  rw [hg] at h
  dsimp only at h
  split at h
  · rename_i hne
    obtain ⟨rfl, rfl⟩ := Prod.mk.inj h
    exact absurd he hne
  · rename_i hne
    have he0 : e = 0 := by simpa using hne
    subst he0
    split at h
    · obtain ⟨rfl, rfl⟩ := Prod.mk.inj h
      simp at he
    · rename_i hle
      obtain ⟨rfl, rfl⟩ := Prod.mk.inj h
      obtain ⟨g1, g2, g3, g4, g5⟩ := put_get (fun b hb => hs b (List.mem_of_mem_drop hb)) hg
      have hl : (putN n0).length = size := by
        rw [← g1, List.length_take]
        omega
      rw [List.length_drop] at g4
      refine ⟨by rw [hl], by rw [hl]; exact g1, by omega, g5, by rw [hl]; omega⟩
end Go.Proofs.YtnblhodhkifeeaaGreatDoor
/-
  Events as bytes: what is read, written anew, are the bytes that were gone over; it may be told. Nothing of the program.
-/
namespace Go.Proofs.YtnblhodhkifeeaaGreatDoor
set_option linter.unusedVariables false
theorem take_app {s A B : List Nat} {at_ : Nat} (h1 : (s.drop at_).take A.length = A) (h2 : (s.drop (at_ + A.length)).take B.length = B) : (s.drop at_).take (A ++ B).length = A ++ B := by
  rw [List.length_append, List.take_add, h1, List.drop_drop, h2]
theorem one_back {s : List Nat} {at1 m1 nb : Nat} {rb : Rdr} (hs : ∀ b ∈ s, b < 256) (hB : numR ⟨s, at1, 0⟩ m1 = (nb, rb)) (he : rb.err = 0) :
    rb = ⟨s, at1 + ([nb].flatMap putN).length, 0⟩ ∧ (s.drop at1).take ([nb].flatMap putN).length = [nb].flatMap putN ∧ nb ≤ m1 ∧ nb < 18446744073709551616 := by
  obtain ⟨h1, h2, h3, h4, -⟩ := num_back hs hB he
  simp only [List.flatMap_cons, List.flatMap_nil, List.append_nil]
  exact ⟨h1, h2, h3, h4⟩
theorem two_back {s : List Nat} {at1 m1 m2 nb nd : Nat} {rb rd : Rdr} (hs : ∀ b ∈ s, b < 256) (hB : numR ⟨s, at1, 0⟩ m1 = (nb, rb)) (hD : numR rb m2 = (nd, rd)) (he : rd.err = 0) :
    rd = ⟨s, at1 + ([nb, nd].flatMap putN).length, 0⟩ ∧ (s.drop at1).take ([nb, nd].flatMap putN).length = [nb, nd].flatMap putN ∧ nb ≤ m1 ∧ nd ≤ m2 ∧ nb < 18446744073709551616 ∧ nd < 18446744073709551616 := by
  have hrb : rb.err = 0 := by
    by_cases h : rb.err = 0
    · exact h
    · rw [numR_err h] at hD
      obtain ⟨-, rfl⟩ := Prod.mk.inj hD
      exact absurd he h
  obtain ⟨rfl, h2, h3, h4, -⟩ := num_back hs hB hrb
  obtain ⟨rfl, g2, g3, g4, -⟩ := num_back hs hD he
  have := take_app h2 g2
  simp only [List.flatMap_cons, List.flatMap_nil, List.append_nil]
  exact ⟨by rw [List.length_append, Nat.add_assoc], this, h3, g3, h4, g4⟩
theorem first_back {T last : Int} {n : Nat} (hT : 1 ≤ T ∧ T ≤ 6) (hl : 0 ≤ last ∧ last < T) (hn : (n : Int) ≤ 13 * T - 1) :
    (1 ≤ (n : Int) / T + 1 ∧ (n : Int) / T + 1 ≤ 13) ∧ (0 ≤ ((n : Int) % T + last) % T ∧ ((n : Int) % T + last) % T < T) ∧ ((n : Int) / T + 1 - 1) * T + (((n : Int) % T + last) % T - last + T) % T = (n : Int) := by
  have : T = 1 ∨ T = 2 ∨ T = 3 ∨ T = 4 ∨ T = 5 ∨ T = 6 := by omega
  rcases this with rfl | rfl | rfl | rfl | rfl | rfl <;> omega
theorem w64_diff (x y : Int) (hy : -9223372036854775808 ≤ y ∧ y ≤ 9223372036854775807) : w64 (w64 (x + y) - x) = y := by unfold w64; omega
theorem join_back {T : Int} {c : Cdr} {e : Ev} {s : List Nat} {at_ n : Nat} {r' : Rdr} {q : List Nat} (hf : firstC T c e = (n : Int)) (hq : numsC c e = q) (h1 : (s.drop at_).take (putN n).length = putN n) (h2 : (s.drop (at_ + (putN n).length)).take (q.flatMap putN).length = q.flatMap putN) (hr : r' = ⟨s, at_ + (putN n).length + (q.flatMap putN).length, 0⟩) :
    r' = ⟨s, at_ + (bytesC T c e).length, 0⟩ ∧ (s.drop at_).take (bytesC T c e).length = bytesC T c e := by
  have hb : bytesC T c e = putN n ++ q.flatMap putN := by unfold bytesC; rw [hf, hq, Int.toNat_natCast, List.flatMap_cons]
  rw [hb]
  exact ⟨by rw [hr, List.length_append, Nat.add_assoc], take_app h1 h2⟩
theorem read_anew {T V S : Int} {c : Cdr} {s : List Nat} {at_ : Nat} {e : Ev} {r' : Rdr} (hsz : 1 ≤ T ∧ T ≤ 6 ∧ 1 ≤ V ∧ V ≤ 32 ∧ 1 ≤ S ∧ S ≤ V) (hc : OkC T c) (hs : ∀ b ∈ s, b < 256) (h : lineR T V S c ⟨s, at_, 0⟩ = (e, r')) (he : r'.err = 0) :
    tellsC T V S c e = true ∧ (-9223372036854775808 ≤ e.x ∧ e.x ≤ 9223372036854775807) ∧ r' = ⟨s, at_ + (bytesC T c e).length, 0⟩ ∧ (s.drop at_).take (bytesC T c e).length = bytesC T c e := by
  unfold lineR at h
  obtain ⟨⟨n, ra⟩, hA⟩ : ∃ x, numR ⟨s, at_, 0⟩ (13 * T - 1).toNat = x := ⟨_, rfl⟩
  rw [hA] at h
  dsimp only at h
  by_cases hra : ra.err = 0
  case neg =>
    exfalso
    have e1 := fun m => numR_err (m := m) hra
    simp only [e1] at h
    repeat' split at h
    all_goals (
      obtain ⟨-, rfl⟩ := Prod.mk.inj h
      first
      | exact hra he
      | (unfold failR at he; rw [if_pos hra] at he; exact hra he))
  obtain ⟨rfl, p2, p3, p4, -⟩ := num_back hs hA hra
  clear hA hra
  have hcl := hc.clock
  have hbg := hc.begun
  have hbu := hc.bumped
  have hxs := hc.xs
  unfold maxClockN at hcl hbg hbu
  obtain ⟨q1, q2, q3⟩ := first_back (T := T) (last := c.last) (n := n) ⟨hsz.1, hsz.2.1⟩ hc.last (by omega)
  generalize (n : Int) / T + 1 = k at h q1 q3
  generalize ((n : Int) % T + c.last) % T = th at h q2 q3
  have hb1 := hbg th
  have hb2 := hbu th
  have hc13 : k = 1 ∨ k = 2 ∨ k = 3 ∨ k = 4 ∨ k = 5 ∨ k = 6 ∨ k = 7 ∨ k = 8 ∨ k = 9 ∨ k = 10 ∨ k = 11 ∨ k = 12 ∨ k = 13 := by omega
  have hmay : ∀ e : Ev, (1 ≤ e.kind ∧ e.kind ≤ 13 ∧ (e.kind = 10 → 1 ≤ e.why ∧ e.why ≤ 6) ∧ 0 ≤ e.th ∧ e.th < T ∧ 0 ≤ e.tx ∧ e.tx ≤ 5 ∧ leastV e ≤ e.v ∧ e.v ≤ 1099511627776 ∧ 0 ≤ e.at_ ∧ e.at_ < placesE e V S) → e = bareE e → mayE e T V S = true := by
    intro e h1 h2
    unfold mayE sizesB
    rw [decide_eq_true hsz, decide_eq_true h1, decide_eq_true (by rw [← h2]; exact ⟨rfl, rfl, rfl, rfl, rfl, rfl, rfl⟩)]
    rfl
  rcases hc13 with rfl | rfl | rfl | rfl | rfl | rfl | rfl | rfl | rfl | rfl | rfl | rfl | rfl
  · rw [if_pos (by decide)] at h
    obtain ⟨⟨nb, rb⟩, hB⟩ : ∃ x, numR ⟨s, at_ + (putN n).length, 0⟩ (5) = x := ⟨_, rfl⟩
    rw [hB] at h
    dsimp only at h
    obtain ⟨⟨nd, rd⟩, hD⟩ : ∃ x, numR rb ((maxClockN - c.clock).toNat) = x := ⟨_, rfl⟩
    rw [hD] at h
    dsimp only at h
    obtain ⟨rfl, rfl⟩ := Prod.mk.inj h
    obtain ⟨rfl, g2, g3, g4, g5, g6⟩ := two_back hs hB hD he
    obtain ⟨j1, j2⟩ := join_back (T := T) (c := c) (e := ⟨1, th, nb, 0, c.clock + nd, 0, 0⟩) (n := n) (q := [nb, nd]) q3 (by unfold numsC; dsimp only; rw [if_pos (by decide), Int.toNat_natCast, show (c.clock + (nd : Int) - c.clock).toNat = nd by omega]) p2 g2 rfl
    unfold maxClockN at g4
    refine ⟨?_, ?_, j1, j2⟩
    · unfold tellsC
      rw [hmay _ (by unfold leastV placesE; simp; try omega) (by unfold bareE; simp)]
      simp
      try omega
    · dsimp only
      omega
  · rw [if_neg (by decide), if_pos (by decide)] at h
    obtain ⟨⟨nb, rb⟩, hB⟩ : ∃ x, numR ⟨s, at_ + (putN n).length, 0⟩ ((S - 1).toNat) = x := ⟨_, rfl⟩
    rw [hB] at h
    dsimp only at h
    obtain ⟨⟨nd, rd⟩, hD⟩ : ∃ x, numR rb ((c.begun th).toNat) = x := ⟨_, rfl⟩
    rw [hD] at h
    dsimp only at h
    obtain ⟨rfl, rfl⟩ := Prod.mk.inj h
    obtain ⟨rfl, g2, g3, g4, g5, g6⟩ := two_back hs hB hD he
    obtain ⟨j1, j2⟩ := join_back (T := T) (c := c) (e := ⟨2, th, 0, nb, c.begun th - nd, 0, 0⟩) (n := n) (q := [nb, nd]) q3 (by unfold numsC; dsimp only; rw [if_neg (by decide), if_pos (by decide), Int.toNat_natCast, show (c.begun th - (c.begun th - (nd : Int))).toNat = nd by omega]) p2 g2 rfl
    refine ⟨?_, ?_, j1, j2⟩
    · unfold tellsC
      rw [hmay _ (by unfold leastV placesE; simp; try omega) (by unfold bareE; simp)]
      simp
      try omega
    · dsimp only
      omega
  · rw [if_neg (by decide), if_neg (by decide), if_pos (by decide)] at h
    obtain ⟨⟨nb, rb⟩, hB⟩ : ∃ x, numR ⟨s, at_ + (putN n).length, 0⟩ ((V - 1).toNat) = x := ⟨_, rfl⟩
    rw [hB] at h
    dsimp only at h
    obtain ⟨⟨nd, rd⟩, hD⟩ : ∃ x, numR rb (maxU) = x := ⟨_, rfl⟩
    rw [hD] at h
    dsimp only at h
    obtain ⟨rfl, rfl⟩ := Prod.mk.inj h
    obtain ⟨rfl, g2, g3, g4, g5, g6⟩ := two_back hs hB hD he
    have hz := zag_ok nd g6
    have hx := hxs nb
    obtain ⟨j1, j2⟩ := join_back (T := T) (c := c) (e := ⟨3, th, 0, nb, 0, w64 (c.x nb + zagZ nd), 0⟩) (n := n) (q := [nb, nd]) q3 (by unfold numsC; dsimp only; rw [if_neg (by decide), if_neg (by decide), if_pos (by decide), Int.toNat_natCast, w64_diff _ _ hz, zig_zag]) p2 g2 rfl
    refine ⟨?_, ?_, j1, j2⟩
    · unfold tellsC
      rw [hmay _ (by unfold leastV placesE; simp; try omega) (by unfold bareE; simp)]
      simp
      try omega
    · dsimp only
      exact w64_ok _
  · rw [if_neg (by decide), if_neg (by decide), if_neg (by decide), if_pos (by decide)] at h
    obtain ⟨⟨nb, rb⟩, hB⟩ : ∃ x, numR ⟨s, at_ + (putN n).length, 0⟩ ((S - 1).toNat) = x := ⟨_, rfl⟩
    rw [hB] at h
    dsimp only at h
    obtain ⟨rfl, rfl⟩ := Prod.mk.inj h
    obtain ⟨rfl, g2, g3, g4⟩ := one_back hs hB he
    obtain ⟨j1, j2⟩ := join_back (T := T) (c := c) (e := ⟨4, th, 0, nb, 0, 0, 0⟩) (n := n) (q := [nb]) q3 (by unfold numsC; dsimp only; rw [if_neg (by decide), if_neg (by decide), if_neg (by decide), if_pos (by decide), Int.toNat_natCast]) p2 g2 rfl
    refine ⟨?_, ?_, j1, j2⟩
    · unfold tellsC
      rw [hmay _ (by unfold leastV placesE; simp; try omega) (by unfold bareE; simp)]
      simp
      try omega
    · dsimp only
      omega
  · rw [if_neg (by decide), if_neg (by decide), if_neg (by decide), if_neg (by decide), if_pos (by decide)] at h
    obtain ⟨⟨nb, rb⟩, hB⟩ : ∃ x, numR ⟨s, at_ + (putN n).length, 0⟩ ((maxClockN - c.clock).toNat) = x := ⟨_, rfl⟩
    rw [hB] at h
    dsimp only at h
    have hnb : nb ≠ 0 := by
      intro h0
      rw [if_pos h0] at h
      obtain ⟨-, rfl⟩ := Prod.mk.inj h
      unfold failR at he
      split at he
      · rename_i hne; exact hne he
      · simp at he
    rw [if_neg hnb] at h
    obtain ⟨rfl, rfl⟩ := Prod.mk.inj h
    obtain ⟨rfl, g2, g3, g4⟩ := one_back hs hB he
    obtain ⟨j1, j2⟩ := join_back (T := T) (c := c) (e := ⟨5, th, 0, 0, c.clock + nb, 0, 0⟩) (n := n) (q := [nb]) q3 (by unfold numsC; dsimp only; rw [if_neg (by decide), if_neg (by decide), if_neg (by decide), if_neg (by decide), if_pos (by decide), show (c.clock + (nb : Int) - c.clock).toNat = nb by omega]) p2 g2 rfl
    unfold maxClockN at g3
    refine ⟨?_, ?_, j1, j2⟩
    · unfold tellsC
      rw [hmay _ (by unfold leastV placesE; simp; try omega) (by unfold bareE; simp)]
      simp
      try omega
    · dsimp only
      omega
  · rw [if_neg (by decide), if_neg (by decide), if_neg (by decide), if_pos (by decide)] at h
    obtain ⟨⟨nb, rb⟩, hB⟩ : ∃ x, numR ⟨s, at_ + (putN n).length, 0⟩ ((S - 1).toNat) = x := ⟨_, rfl⟩
    rw [hB] at h
    dsimp only at h
    obtain ⟨rfl, rfl⟩ := Prod.mk.inj h
    obtain ⟨rfl, g2, g3, g4⟩ := one_back hs hB he
    obtain ⟨j1, j2⟩ := join_back (T := T) (c := c) (e := ⟨6, th, 0, nb, 0, 0, 0⟩) (n := n) (q := [nb]) q3 (by unfold numsC; dsimp only; rw [if_neg (by decide), if_neg (by decide), if_neg (by decide), if_pos (by decide), Int.toNat_natCast]) p2 g2 rfl
    refine ⟨?_, ?_, j1, j2⟩
    · unfold tellsC
      rw [hmay _ (by unfold leastV placesE; simp; try omega) (by unfold bareE; simp)]
      simp
      try omega
    · dsimp only
      omega
  · rw [if_neg (by decide), if_neg (by decide), if_neg (by decide), if_neg (by decide), if_neg (by decide), if_pos (by decide)] at h
    obtain ⟨⟨nb, rb⟩, hB⟩ : ∃ x, numR ⟨s, at_ + (putN n).length, 0⟩ 1 = x := ⟨_, rfl⟩
    rw [hB] at h
    dsimp only at h
    by_cases h0 : nb = 0
    · rw [if_pos h0] at h
      obtain ⟨rfl, rfl⟩ := Prod.mk.inj h
      obtain ⟨rfl, g2, g3, g4⟩ := one_back hs hB he
      obtain ⟨j1, j2⟩ := join_back (T := T) (c := c) (e := ⟨7, th, 0, 0, 0, 0, 0⟩) (n := n) (q := [nb]) q3 (by unfold numsC; dsimp only; rw [if_neg (by decide), if_neg (by decide), if_neg (by decide), if_neg (by decide), if_neg (by decide), if_pos (by decide), if_pos rfl, h0]) p2 g2 rfl
      refine ⟨?_, ?_, j1, j2⟩
      · unfold tellsC
        rw [hmay _ (by unfold leastV placesE; simp; try omega) (by unfold bareE; simp)]
        simp
      · dsimp only
        omega
    · rw [if_neg h0] at h
      have hbz : c.bumped th ≠ 0 := by
        intro hz
        rw [if_pos hz] at h
        obtain ⟨-, rfl⟩ := Prod.mk.inj h
        unfold failR at he
        split at he
        · rename_i hne; exact hne he
        · simp at he
      rw [if_neg hbz] at h
      obtain ⟨rfl, rfl⟩ := Prod.mk.inj h
      obtain ⟨rfl, g2, g3, g4⟩ := one_back hs hB he
      obtain ⟨j1, j2⟩ := join_back (T := T) (c := c) (e := ⟨7, th, 0, 0, c.bumped th, 0, 0⟩) (n := n) (q := [nb]) q3 (by unfold numsC; dsimp only; rw [if_neg (by decide), if_neg (by decide), if_neg (by decide), if_neg (by decide), if_neg (by decide), if_pos (by decide), if_neg hbz, show nb = 1 by omega]) p2 g2 rfl
      refine ⟨?_, ?_, j1, j2⟩
      · unfold tellsC
        rw [hmay _ (by unfold leastV placesE; simp; try omega) (by unfold bareE; simp)]
        simp
      · dsimp only
        omega
  · rw [if_neg (by decide), if_neg (by decide), if_pos (by decide)] at h
    obtain ⟨⟨nb, rb⟩, hB⟩ : ∃ x, numR ⟨s, at_ + (putN n).length, 0⟩ ((V - 1).toNat) = x := ⟨_, rfl⟩
    rw [hB] at h
    dsimp only at h
    obtain ⟨⟨nd, rd⟩, hD⟩ : ∃ x, numR rb (maxU) = x := ⟨_, rfl⟩
    rw [hD] at h
    dsimp only at h
    obtain ⟨rfl, rfl⟩ := Prod.mk.inj h
    obtain ⟨rfl, g2, g3, g4, g5, g6⟩ := two_back hs hB hD he
    have hz := zag_ok nd g6
    have hx := hxs nb
    obtain ⟨j1, j2⟩ := join_back (T := T) (c := c) (e := ⟨8, th, 0, nb, 0, w64 (c.x nb + zagZ nd), 0⟩) (n := n) (q := [nb, nd]) q3 (by unfold numsC; dsimp only; rw [if_neg (by decide), if_neg (by decide), if_pos (by decide), Int.toNat_natCast, w64_diff _ _ hz, zig_zag]) p2 g2 rfl
    refine ⟨?_, ?_, j1, j2⟩
    · unfold tellsC
      rw [hmay _ (by unfold leastV placesE; simp; try omega) (by unfold bareE; simp)]
      simp
      try omega
    · dsimp only
      exact w64_ok _
  · rw [if_neg (by decide), if_neg (by decide), if_neg (by decide), if_pos (by decide)] at h
    obtain ⟨⟨nb, rb⟩, hB⟩ : ∃ x, numR ⟨s, at_ + (putN n).length, 0⟩ ((S - 1).toNat) = x := ⟨_, rfl⟩
    rw [hB] at h
    dsimp only at h
    obtain ⟨rfl, rfl⟩ := Prod.mk.inj h
    obtain ⟨rfl, g2, g3, g4⟩ := one_back hs hB he
    obtain ⟨j1, j2⟩ := join_back (T := T) (c := c) (e := ⟨9, th, 0, nb, 0, 0, 0⟩) (n := n) (q := [nb]) q3 (by unfold numsC; dsimp only; rw [if_neg (by decide), if_neg (by decide), if_neg (by decide), if_pos (by decide), Int.toNat_natCast]) p2 g2 rfl
    refine ⟨?_, ?_, j1, j2⟩
    · unfold tellsC
      rw [hmay _ (by unfold leastV placesE; simp; try omega) (by unfold bareE; simp)]
      simp
      try omega
    · dsimp only
      omega
  · rw [if_neg (by decide), if_neg (by decide), if_neg (by decide), if_neg (by decide), if_neg (by decide), if_neg (by decide), if_pos (by decide)] at h
    obtain ⟨⟨nb, rb⟩, hB⟩ : ∃ x, numR ⟨s, at_ + (putN n).length, 0⟩ 5 = x := ⟨_, rfl⟩
    rw [hB] at h
    dsimp only at h
    by_cases h00 : nb + 1 = 6
    · rw [if_pos h00] at h
      have h0 : (nb : Int) + 1 = 6 := by omega
      obtain ⟨rfl, rfl⟩ := Prod.mk.inj h
      obtain ⟨rfl, g2, g3, g4⟩ := one_back hs hB he
      obtain ⟨j1, j2⟩ := join_back (T := T) (c := c) (e := ⟨10, th, 0, 0, 0, 0, (nb : Int) + 1⟩) (n := n) (q := [nb]) q3 (by unfold numsC; dsimp only; rw [if_neg (by decide), if_neg (by decide), if_neg (by decide), if_neg (by decide), if_neg (by decide), if_neg (by decide), if_pos (by decide), if_pos h0, show ((nb : Int) + 1 - 1).toNat = nb by omega]) p2 g2 rfl
      refine ⟨?_, ?_, j1, j2⟩
      · unfold tellsC
        rw [hmay _ (by unfold leastV placesE; simp [h0]; try omega) (by unfold bareE; simp)]
        simp
      · dsimp only
        omega
    · rw [if_neg h00] at h
      have h0 : ¬ (nb : Int) + 1 = 6 := by omega
      obtain ⟨⟨nd, rd⟩, hD⟩ : ∃ x, numR rb (S - 1).toNat = x := ⟨_, rfl⟩
      rw [hD] at h
      dsimp only at h
      obtain ⟨rfl, rfl⟩ := Prod.mk.inj h
      obtain ⟨rfl, g2, g3, g4, g5, g6⟩ := two_back hs hB hD he
      obtain ⟨j1, j2⟩ := join_back (T := T) (c := c) (e := ⟨10, th, 0, nd, 0, 0, (nb : Int) + 1⟩) (n := n) (q := [nb, nd]) q3 (by unfold numsC; dsimp only; rw [if_neg (by decide), if_neg (by decide), if_neg (by decide), if_neg (by decide), if_neg (by decide), if_neg (by decide), if_pos (by decide), if_neg h0, show ((nb : Int) + 1 - 1).toNat = nb by omega, Int.toNat_natCast]) p2 g2 rfl
      refine ⟨?_, ?_, j1, j2⟩
      · unfold tellsC
        rw [hmay _ (by unfold leastV placesE; simp [h0]; try omega) (by unfold bareE; simp)]
        simp
      · dsimp only
        omega
  · rw [if_neg (by decide), if_neg (by decide), if_neg (by decide), if_pos (by decide)] at h
    obtain ⟨⟨nb, rb⟩, hB⟩ : ∃ x, numR ⟨s, at_ + (putN n).length, 0⟩ ((S - 1).toNat) = x := ⟨_, rfl⟩
    rw [hB] at h
    dsimp only at h
    obtain ⟨rfl, rfl⟩ := Prod.mk.inj h
    obtain ⟨rfl, g2, g3, g4⟩ := one_back hs hB he
    obtain ⟨j1, j2⟩ := join_back (T := T) (c := c) (e := ⟨11, th, 0, nb, 0, 0, 0⟩) (n := n) (q := [nb]) q3 (by unfold numsC; dsimp only; rw [if_neg (by decide), if_neg (by decide), if_neg (by decide), if_pos (by decide), Int.toNat_natCast]) p2 g2 rfl
    refine ⟨?_, ?_, j1, j2⟩
    · unfold tellsC
      rw [hmay _ (by unfold leastV placesE; simp; try omega) (by unfold bareE; simp)]
      simp
      try omega
    · dsimp only
      omega
  · rw [if_neg (by decide), if_neg (by decide), if_neg (by decide), if_neg (by decide), if_neg (by decide), if_neg (by decide), if_neg (by decide)] at h
    obtain ⟨rfl, rfl⟩ := Prod.mk.inj h
    have g2 : (s.drop (at_ + (putN n).length)).take (([] : List Nat).flatMap putN).length = ([] : List Nat).flatMap putN := by simp
    obtain ⟨j1, j2⟩ := join_back (T := T) (c := c) (e := ⟨12, th, 0, 0, 0, 0, 0⟩) (n := n) (q := []) q3 (by unfold numsC; dsimp only; rw [if_neg (by decide), if_neg (by decide), if_neg (by decide), if_neg (by decide), if_neg (by decide), if_neg (by decide), if_neg (by decide)]) p2 g2 rfl
    refine ⟨?_, ?_, j1, j2⟩
    · unfold tellsC
      rw [hmay _ (by unfold leastV placesE; simp; try omega) (by unfold bareE; simp)]
      simp
      try omega
    · dsimp only
      omega
  · rw [if_neg (by decide), if_neg (by decide), if_neg (by decide), if_neg (by decide), if_neg (by decide), if_neg (by decide), if_neg (by decide)] at h
    obtain ⟨rfl, rfl⟩ := Prod.mk.inj h
    have g2 : (s.drop (at_ + (putN n).length)).take (([] : List Nat).flatMap putN).length = ([] : List Nat).flatMap putN := by simp
    obtain ⟨j1, j2⟩ := join_back (T := T) (c := c) (e := ⟨13, th, 0, 0, 0, 0, 0⟩) (n := n) (q := []) q3 (by unfold numsC; dsimp only; rw [if_neg (by decide), if_neg (by decide), if_neg (by decide), if_neg (by decide), if_neg (by decide), if_neg (by decide), if_neg (by decide)]) p2 g2 rfl
    refine ⟨?_, ?_, j1, j2⟩
    · unfold tellsC
      rw [hmay _ (by unfold leastV placesE; simp; try omega) (by unfold bareE; simp)]
      simp
      try omega
    · dsimp only
      omega
end Go.Proofs.YtnblhodhkifeeaaGreatDoor
/-
  Events as bytes, one behind the other. Nothing of the program.
-/
namespace Go.Proofs.YtnblhodhkifeeaaGreatDoor
set_option linter.unusedVariables false
def cAll (c : Cdr) (l : List Ev) : Cdr := l.foldl knowsC c
def bytesAll (T : Int) (c : Cdr) : List Ev → List Nat
  | [] => []
  | e :: r => bytesC T c e ++ bytesAll T (knowsC c e) r
def ToldOk (T V S : Int) (c : Cdr) : List Ev → Prop
  | [] => True
  | e :: r => (tellsC T V S c e = true ∧ -9223372036854775808 ≤ e.x ∧ e.x ≤ 9223372036854775807) ∧ ToldOk T V S (knowsC c e) r
theorem cAll_app (c : Cdr) (l m : List Ev) : cAll c (l ++ m) = cAll (cAll c l) m := List.foldl_append ..
theorem bytesAll_app (T : Int) : ∀ (l m : List Ev) (c : Cdr), bytesAll T c (l ++ m) = bytesAll T c l ++ bytesAll T (cAll c l) m
  | [], m, c => rfl
  | e :: l, m, c => by
    rw [List.cons_append, bytesAll, bytesAll_app T l m (knowsC c e), bytesAll, List.append_assoc]
    rfl
theorem told_app (T V S : Int) : ∀ (l m : List Ev) (c : Cdr), ToldOk T V S c (l ++ m) ↔ ToldOk T V S c l ∧ ToldOk T V S (cAll c l) m
  | [], m, c => by simp [ToldOk, cAll]
  | e :: l, m, c => by
    rw [List.cons_append, ToldOk, ToldOk, told_app T V S l m (knowsC c e)]
    exact ⟨fun h => ⟨⟨h.1, h.2.1⟩, h.2.2⟩, fun h => ⟨h.1.1, h.1.2, h.2⟩⟩
theorem told_snoc {T V S : Int} {c : Cdr} {l : List Ev} {e : Ev} (h : ToldOk T V S c l) (ht : tellsC T V S (cAll c l) e = true) (hx : -9223372036854775808 ≤ e.x ∧ e.x ≤ 9223372036854775807) :
    ToldOk T V S c (l ++ [e]) ∧ bytesAll T c (l ++ [e]) = bytesAll T c l ++ bytesC T (cAll c l) e ∧ cAll c (l ++ [e]) = knowsC (cAll c l) e := by
  refine ⟨(told_app T V S l [e] c).2 ⟨h, ⟨ht, hx⟩, trivial⟩, ?_, cAll_app c l [e]⟩
  rw [bytesAll_app, bytesAll, bytesAll, List.append_nil]
theorem bytesAll_len {T V S : Int} : ∀ (l : List Ev) {c : Cdr}, OkC T c → ToldOk T V S c l → (bytesAll T c l).length ≤ 12 * l.length
  | [], c, _, _ => by simp [bytesAll]
  | e :: l, c, h, hl => by
    have h1 := bytes_len h hl.1.1
    have h2 := bytesAll_len l (okC_knows h hl.1.1 hl.1.2) hl.2
    rw [bytesAll, List.length_append, List.length_cons]
    omega
end Go.Proofs.YtnblhodhkifeeaaGreatDoor
/-
  One line gone over, whatever its numbers are handed to; with the writer's it is written, with the reader's read. Nothing of the program.
-/
namespace Go.Proofs.YtnblhodhkifeeaaGreatDoor
set_option linter.unusedVariables false
set_option linter.unusedSimpArgs false
structure Cl (σ : Type) where
  num : σ → Int → Int → Int × σ
  int : σ → Int → Int × σ
  bad : σ → σ
def lineK {σ : Type} (K : Cl σ) (V S : Int) (c : Cdr) (e : Ev) (s : σ) : Ev × σ :=
  if e.kind = 1 then
    let a := K.num s e.tx 5; let b := K.num a.2 (e.v - c.clock) (maxClockN - c.clock); ({ e with tx := a.1, v := c.clock + b.1 }, b.2)
  else if e.kind = 2 then
    let a := K.num s e.at_ (S - 1); let b := K.num a.2 (c.begun e.th - e.v) (c.begun e.th); ({ e with at_ := a.1, v := c.begun e.th - b.1 }, b.2)
  else if e.kind = 3 ∨ e.kind = 8 then
    let a := K.num s e.at_ (V - 1); let b := K.int a.2 (w64 (e.x - c.x a.1)); ({ e with at_ := a.1, x := w64 (c.x a.1 + b.1) }, b.2)
  else if e.kind = 4 ∨ e.kind = 6 ∨ e.kind = 9 ∨ e.kind = 11 then
    let a := K.num s e.at_ (S - 1); ({ e with at_ := a.1 }, a.2)
  else if e.kind = 5 then
    let a := K.num s (e.v - c.clock) (maxClockN - c.clock); ({ e with v := c.clock + a.1 }, if a.1 = 0 then K.bad a.2 else a.2)
  else if e.kind = 7 then
    let a := K.num s (min e.v 1) 1; if a.1 = 0 then ({ e with v := 0 }, a.2) else ({ e with v := c.bumped e.th }, if c.bumped e.th = 0 then K.bad a.2 else a.2)
  else if e.kind = 10 then
    let a := K.num s (e.why - 1) 5; if a.1 + 1 = 6 then ({ e with why := a.1 + 1 }, a.2) else let b := K.num a.2 e.at_ (S - 1); ({ e with why := a.1 + 1, at_ := b.1 }, b.2)
  else (e, s)
def lineG {σ : Type} (K : Cl σ) (T V S : Int) (c : Cdr) (e : Ev) (s : σ) : Ev × σ :=
  let a := K.num s ((e.kind - 1) * T + (e.th - c.last + T) % T) (13 * T - 1)
  lineK K V S c { e with kind := a.1 / T + 1, th := (a.1 % T + c.last) % T } a.2
def wCl : Cl (List Nat) := ⟨fun s n _ => (n, s ++ putN n.toNat), fun s x => (x, s ++ putN (zigZ x)), fun s => s⟩
def rCl : Cl (Rdr × Nat) := ⟨fun s _ m => ((numR s.1 m.toNat).1, ((numR s.1 m.toNat).2, s.1.at_)), fun s _ => (zagZ (numR s.1 maxU).1, ((numR s.1 maxU).2, s.2)), fun s => (failR s.1 s.2, s.2)⟩
theorem line_write {T V S : Int} {c : Cdr} {e : Ev} {s : List Nat} (hc : OkC T c) (ht : tellsC T V S c e = true) (hx : -9223372036854775808 ≤ e.x ∧ e.x ≤ 9223372036854775807) : lineG wCl T V S c e s = (e, s ++ bytesC T c e) := by
  unfold tellsC at ht
  rw [Bool.and_eq_true] at ht
  obtain ⟨hm, hk2⟩ := ht
  obtain ⟨hs, ⟨k1, k2, hw, t1, t2, x1, x2, v1, v2, a1, a2⟩, hb⟩ := may_sizes' hm
  obtain ⟨f1, f2, f3, f4⟩ := first_ok (T := T) (k := e.kind) (th := e.th) (last := c.last) ⟨by omega, by omega⟩ ⟨k1, k2⟩ ⟨t1, t2⟩ hc.last
  unfold lineG
  dsimp only [wCl]
  rw [f3, f4]
  have hb0 : bytesC T c e = putN ((e.kind - 1) * T + (e.th - c.last + T) % T).toNat ++ (numsC c e).flatMap putN := by unfold bytesC firstC; rw [List.flatMap_cons]
  rw [hb0, ← List.append_assoc]
  generalize s ++ putN ((e.kind - 1) * T + (e.th - c.last + T) % T).toNat = q
  have hl : 0 ≤ leastV e := by unfold leastV; split <;> omega
  obtain ⟨kind, th, tx, at_, v, x, why⟩ := e
  dsimp only at *
  have hback := w64_back x (c.x at_) hx
  have hc13 : kind = 1 ∨ kind = 2 ∨ kind = 3 ∨ kind = 4 ∨ kind = 5 ∨ kind = 6 ∨ kind = 7 ∨ kind = 8 ∨ kind = 9 ∨ kind = 10 ∨ kind = 11 ∨ kind = 12 ∨ kind = 13 := by omega
  clear f1 f2 f3 f4 hm hb0
  rcases hc13 with rfl | rfl | rfl | rfl | rfl | rfl | rfl | rfl | rfl | rfl | rfl | rfl | rfl
  · unfold bareE at hb
    simp at hb hk2
    rw [show numsC c ⟨1, th, tx, at_, v, x, why⟩ = [tx.toNat, (v - c.clock).toNat] from rfl]
    unfold lineK
    dsimp only
    rw [if_pos (by decide)]
    simp only [List.flatMap_cons, List.flatMap_nil, List.append_nil, ← List.append_assoc]
    all_goals refine Prod.ext (Ev.ext' rfl rfl ?_ ?_ ?_ ?_ ?_) rfl
    all_goals (first | rfl | exact hback | omega | (dsimp only; omega))
  · unfold bareE at hb
    simp at hb hk2
    rw [show numsC c ⟨2, th, tx, at_, v, x, why⟩ = [at_.toNat, (c.begun th - v).toNat] from rfl]
    unfold lineK
    dsimp only
    rw [if_neg (by decide), if_pos (by decide)]
    simp only [List.flatMap_cons, List.flatMap_nil, List.append_nil, ← List.append_assoc]
    all_goals refine Prod.ext (Ev.ext' rfl rfl ?_ ?_ ?_ ?_ ?_) rfl
    all_goals (first | rfl | exact hback | omega | (dsimp only; omega))
  · unfold bareE at hb
    simp at hb hk2
    rw [show numsC c ⟨3, th, tx, at_, v, x, why⟩ = [at_.toNat, zigZ (w64 (x - c.x at_))] from rfl]
    unfold lineK
    dsimp only
    rw [if_neg (by decide), if_neg (by decide), if_pos (by decide)]
    simp only [List.flatMap_cons, List.flatMap_nil, List.append_nil, ← List.append_assoc]
    all_goals refine Prod.ext (Ev.ext' rfl rfl ?_ ?_ ?_ ?_ ?_) rfl
    all_goals (first | rfl | exact hback | omega | (dsimp only; omega))
  · unfold bareE at hb
    simp at hb hk2
    rw [show numsC c ⟨4, th, tx, at_, v, x, why⟩ = [at_.toNat] from rfl]
    unfold lineK
    dsimp only
    rw [if_neg (by decide), if_neg (by decide), if_neg (by decide), if_pos (by decide)]
    simp only [List.flatMap_cons, List.flatMap_nil, List.append_nil, ← List.append_assoc]
    all_goals refine Prod.ext (Ev.ext' rfl rfl ?_ ?_ ?_ ?_ ?_) rfl
    all_goals (first | rfl | exact hback | omega | (dsimp only; omega))
  · unfold bareE at hb
    simp at hb hk2
    rw [show numsC c ⟨5, th, tx, at_, v, x, why⟩ = [(v - c.clock).toNat] from rfl]
    unfold lineK
    dsimp only
    rw [if_neg (by decide), if_neg (by decide), if_neg (by decide), if_neg (by decide), if_pos (by decide)]
    rw [if_neg (by omega)]
    simp only [List.flatMap_cons, List.flatMap_nil, List.append_nil, ← List.append_assoc]
    all_goals refine Prod.ext (Ev.ext' rfl rfl ?_ ?_ ?_ ?_ ?_) rfl
    all_goals (first | rfl | omega | (dsimp only; omega))
  · unfold bareE at hb
    simp at hb hk2
    rw [show numsC c ⟨6, th, tx, at_, v, x, why⟩ = [at_.toNat] from rfl]
    unfold lineK
    dsimp only
    rw [if_neg (by decide), if_neg (by decide), if_neg (by decide), if_pos (by decide)]
    simp only [List.flatMap_cons, List.flatMap_nil, List.append_nil, ← List.append_assoc]
    all_goals refine Prod.ext (Ev.ext' rfl rfl ?_ ?_ ?_ ?_ ?_) rfl
    all_goals (first | rfl | exact hback | omega | (dsimp only; omega))
  · unfold bareE at hb
    simp at hb hk2
    rw [show numsC c ⟨7, th, tx, at_, v, x, why⟩ = [if v = 0 then 0 else 1] from rfl]
    unfold lineK
    dsimp only
    rw [if_neg (by decide), if_neg (by decide), if_neg (by decide), if_neg (by decide), if_neg (by decide), if_pos (by decide)]
    by_cases hv : v = 0
    · subst hv
      rw [if_pos rfl, show min (0 : Int) 1 = 0 by decide]
      rw [if_pos rfl]
      simp only [List.flatMap_cons, List.flatMap_nil, List.append_nil, ← List.append_assoc]
      all_goals refine Prod.ext (Ev.ext' rfl rfl ?_ ?_ ?_ ?_ ?_) rfl
      all_goals (first | rfl | omega | (dsimp only; omega))
    · rw [if_neg hv, show min v 1 = 1 by unfold leastV at *; simp at *; omega]
      rw [if_neg (by decide), if_neg (by omega)]
      simp only [List.flatMap_cons, List.flatMap_nil, List.append_nil, ← List.append_assoc]
      all_goals refine Prod.ext (Ev.ext' rfl rfl ?_ ?_ ?_ ?_ ?_) rfl
      all_goals (first | rfl | omega | (dsimp only; omega))
  · unfold bareE at hb
    simp at hb hk2
    rw [show numsC c ⟨8, th, tx, at_, v, x, why⟩ = [at_.toNat, zigZ (w64 (x - c.x at_))] from rfl]
    unfold lineK
    dsimp only
    rw [if_neg (by decide), if_neg (by decide), if_pos (by decide)]
    simp only [List.flatMap_cons, List.flatMap_nil, List.append_nil, ← List.append_assoc]
    all_goals refine Prod.ext (Ev.ext' rfl rfl ?_ ?_ ?_ ?_ ?_) rfl
    all_goals (first | rfl | exact hback | omega | (dsimp only; omega))
  · unfold bareE at hb
    simp at hb hk2
    rw [show numsC c ⟨9, th, tx, at_, v, x, why⟩ = [at_.toNat] from rfl]
    unfold lineK
    dsimp only
    rw [if_neg (by decide), if_neg (by decide), if_neg (by decide), if_pos (by decide)]
    simp only [List.flatMap_cons, List.flatMap_nil, List.append_nil, ← List.append_assoc]
    all_goals refine Prod.ext (Ev.ext' rfl rfl ?_ ?_ ?_ ?_ ?_) rfl
    all_goals (first | rfl | exact hback | omega | (dsimp only; omega))
  · unfold bareE at hb
    simp at hb hk2
    rw [show numsC c ⟨10, th, tx, at_, v, x, why⟩ = (why - 1).toNat :: (if why = 6 then [] else [at_.toNat]) from rfl]
    unfold lineK
    dsimp only
    rw [if_neg (by decide), if_neg (by decide), if_neg (by decide), if_neg (by decide), if_neg (by decide), if_neg (by decide), if_pos (by decide)]
    by_cases hv : why = 6
    · rw [if_pos hv, if_pos (by omega)]
      simp only [List.flatMap_cons, List.flatMap_nil, List.append_nil, ← List.append_assoc]
      all_goals refine Prod.ext (Ev.ext' rfl rfl ?_ ?_ ?_ ?_ ?_) rfl
      all_goals (first | rfl | omega | (dsimp only; omega))
    · rw [if_neg hv, if_neg (by omega)]
      simp only [List.flatMap_cons, List.flatMap_nil, List.append_nil, ← List.append_assoc]
      all_goals refine Prod.ext (Ev.ext' rfl rfl ?_ ?_ ?_ ?_ ?_) rfl
      all_goals (first | rfl | omega | (dsimp only; omega))
  · unfold bareE at hb
    simp at hb hk2
    rw [show numsC c ⟨11, th, tx, at_, v, x, why⟩ = [at_.toNat] from rfl]
    unfold lineK
    dsimp only
    rw [if_neg (by decide), if_neg (by decide), if_neg (by decide), if_pos (by decide)]
    simp only [List.flatMap_cons, List.flatMap_nil, List.append_nil, ← List.append_assoc]
    all_goals refine Prod.ext (Ev.ext' rfl rfl ?_ ?_ ?_ ?_ ?_) rfl
    all_goals (first | rfl | exact hback | omega | (dsimp only; omega))
  · unfold bareE at hb
    simp at hb hk2
    rw [show numsC c ⟨12, th, tx, at_, v, x, why⟩ = [] from rfl]
    unfold lineK
    dsimp only
    rw [if_neg (by decide), if_neg (by decide), if_neg (by decide), if_neg (by decide), if_neg (by decide), if_neg (by decide), if_neg (by decide)]
    simp
  · unfold bareE at hb
    simp at hb hk2
    rw [show numsC c ⟨13, th, tx, at_, v, x, why⟩ = [] from rfl]
    unfold lineK
    dsimp only
    rw [if_neg (by decide), if_neg (by decide), if_neg (by decide), if_neg (by decide), if_neg (by decide), if_neg (by decide), if_neg (by decide)]
    simp
theorem line_read {T V S : Int} {c : Cdr} {r : Rdr} {p : Nat} : (lineG rCl T V S c ⟨12, 0, 0, 0, 0, 0, 0⟩ (r, p)).1 = (lineR T V S c r).1 ∧ (lineG rCl T V S c ⟨12, 0, 0, 0, 0, 0, 0⟩ (r, p)).2.1 = (lineR T V S c r).2 := by
  unfold lineG lineR lineK
  dsimp only [rCl]
  generalize numR r (13 * T - 1).toNat = a
  obtain ⟨n, ra⟩ := a
  dsimp only
  generalize (n : Int) / T + 1 = k
  generalize ((n : Int) % T + c.last) % T = th
  by_cases h1 : k = 1
  · rw [if_pos h1, if_pos h1]; exact ⟨rfl, rfl⟩
  rw [if_neg h1, if_neg h1]
  by_cases h2 : k = 2
  · rw [if_pos h2, if_pos h2]; exact ⟨rfl, rfl⟩
  rw [if_neg h2, if_neg h2]
  by_cases h3 : k = 3 ∨ k = 8
  · rw [if_pos h3, if_pos h3]; exact ⟨rfl, rfl⟩
  rw [if_neg h3, if_neg h3]
  by_cases h4 : k = 4 ∨ k = 6 ∨ k = 9 ∨ k = 11
  · rw [if_pos h4, if_pos h4]; exact ⟨rfl, rfl⟩
  rw [if_neg h4, if_neg h4]
  by_cases h5 : k = 5
  · rw [if_pos h5, if_pos h5]
    refine ⟨rfl, ?_⟩
    dsimp only
    by_cases hz : (numR ra (maxClockN - c.clock).toNat).1 = 0
    · rw [if_pos (by rw [hz]; rfl), if_pos hz]
    · rw [if_neg (by omega), if_neg hz]
  rw [if_neg h5, if_neg h5]
  by_cases h7 : k = 7
  · rw [if_pos h7, if_pos h7]
    rw [show (1 : Int).toNat = 1 from rfl]
    by_cases hz : (numR ra 1).1 = 0
    · rw [if_pos (by rw [hz]; rfl), if_pos hz]; exact ⟨rfl, rfl⟩
    · rw [if_neg (by omega), if_neg hz]
      refine ⟨rfl, ?_⟩
      dsimp only
      split <;> rfl
  rw [if_neg h7, if_neg h7]
  by_cases h10 : k = 10
  · rw [if_pos h10, if_pos h10]
    rw [show (5 : Int).toNat = 5 from rfl]
    by_cases hz : (numR ra 5).1 + 1 = 6
    · rw [if_pos (by omega), if_pos hz]; exact ⟨rfl, rfl⟩
    · rw [if_neg (by omega), if_neg hz]; exact ⟨rfl, rfl⟩
  rw [if_neg h10, if_neg h10]
  exact ⟨rfl, rfl⟩
end Go.Proofs.YtnblhodhkifeeaaGreatDoor
/-
  Reading goes on, never back. Nothing of the program.
-/
namespace Go.Proofs.YtnblhodhkifeeaaGreatDoor
set_option linter.unusedVariables false
set_option linter.unusedSimpArgs false
theorem numR_on (r : Rdr) (m : Nat) : r.at_ ≤ (numR r m).2.at_ := by
  unfold numR
  split
  · exact Nat.le_refl _
  · split
    split
    · exact Nat.le_refl _
    · split
      · exact Nat.le_refl _
      · exact Nat.le_add_right _ _
theorem failR_on {r : Rdr} {p q : Nat} (h1 : q ≤ r.at_) (h2 : q ≤ p) : q ≤ (failR r p).at_ := by
  unfold failR
  split
  · exact h1
  · exact h2
theorem lineR_on (T V S : Int) (c : Cdr) (r : Rdr) : r.at_ ≤ (lineR T V S c r).2.at_ := by
  unfold lineR
  dsimp only
  have h0 := numR_on r (13 * T - 1).toNat
  generalize numR r (13 * T - 1).toNat = a at h0 ⊢
  obtain ⟨n, ra⟩ := a
  dsimp only at h0 ⊢
  have h2 : ∀ (m m' : Nat), r.at_ ≤ (numR (numR ra m).2 m').2.at_ := fun m m' => Nat.le_trans h0 (Nat.le_trans (numR_on ra m) (numR_on _ m'))
  have h1 : ∀ (m : Nat), r.at_ ≤ (numR ra m).2.at_ := fun m => Nat.le_trans h0 (numR_on ra m)
  repeat' split
  all_goals (dsimp only)
  all_goals first
    | exact h2 _ _
    | exact h1 _
    | exact h0
    | exact failR_on (h1 _) h0
    | (split; · exact failR_on (h1 _) h0
       · exact h1 _)
end Go.Proofs.YtnblhodhkifeeaaGreatDoor
/-
  What comes in a well-formed trace may be told by the coder. Nothing of the program.
-/
namespace Go.Proofs.YtnblhodhkifeeaaGreatDoor
set_option linter.unusedVariables false
set_option linter.unusedSimpArgs false
structure Agree (s : Sh) (c : Cdr) : Prop where
  clk : s.clock = c.clock
  rv : ∀ i : Nat, i < s.ths.length → (s.ths.getD i Th.zero).rv = c.begun (i : Int)
  wv : ∀ i : Nat, i < s.ths.length → (s.ths.getD i Th.zero).at_ = 4 → (s.ths.getD i Th.zero).wv = c.bumped (i : Int)
theorem Agree.turn {s s' : Sh} {c c' : Cdr} {th : Nat} {t' : Th} (h : Agree s c) (hlt : th < s.ths.length) (hths : s'.ths = s.ths.set th t') (hclk : s'.clock = c'.clock)
    (hb : (c'.begun = c.begun ∧ t'.rv = (s.ths.getD th Th.zero).rv) ∨ c'.begun = upd c.begun (th : Int) t'.rv)
    (hw : (c'.bumped = c.bumped ∧ (t'.at_ = 4 → (s.ths.getD th Th.zero).at_ = 4 ∧ t'.wv = (s.ths.getD th Th.zero).wv)) ∨ c'.bumped = upd c.bumped (th : Int) t'.wv) : Agree s' c' := by
  refine ⟨hclk, fun i hi => ?_, fun i hi h4 => ?_⟩
  · rw [hths, List.length_set] at hi
    rw [hths]
    by_cases hie : th = i
    · subst hie
      rw [getD_set_eq _ _ _ _ hlt]
      rcases hb with ⟨e1, e2⟩ | e1
      · rw [e1, e2]; exact h.rv _ hlt
      · rw [e1]; unfold upd; rw [if_pos rfl]
    · rw [getD_set_ne _ _ _ _ _ hie]
      rcases hb with ⟨e1, e2⟩ | e1
      · rw [e1]; exact h.rv i hi
      · rw [e1]; unfold upd; rw [if_neg (by omega)]; exact h.rv i hi
  · rw [hths, List.length_set] at hi
    rw [hths] at h4 ⊢
    by_cases hie : th = i
    · subst hie
      rw [getD_set_eq _ _ _ _ hlt] at h4 ⊢
      rcases hw with ⟨e1, e2⟩ | e1
      · obtain ⟨e3, e4⟩ := e2 h4
        rw [e1, e4]; exact h.wv _ hlt e3
      · rw [e1]; unfold upd; rw [if_pos rfl]
    · rw [getD_set_ne _ _ _ _ _ hie] at h4 ⊢
      rcases hw with ⟨e1, e2⟩ | e1
      · rw [e1]; exact h.wv i hi h4
      · rw [e1]; unfold upd; rw [if_neg (by omega)]; exact h.wv i hi h4
theorem Agree.new {T V S : Int} : Agree (newS T V S) newC := by
  have hz : ∀ i : Nat, ((List.replicate T.toNat Th.zero).getD i Th.zero) = Th.zero := by
    intro i
    rw [List.getD_eq_getElem?_getD, List.getElem?_replicate]
    split <;> rfl
  refine ⟨rfl, fun i _ => ?_, fun i _ h => ?_⟩
  · unfold newS; dsimp only; rw [hz]; rfl
  · unfold newS at h; dsimp only at h; rw [hz] at h; exact absurd h (by decide)
theorem knows_plain {c : Cdr} {e : Ev} (h1 : e.kind ≠ 1) (h5 : e.kind ≠ 5) : (knowsC c e).clock = c.clock ∧ (knowsC c e).begun = c.begun ∧ (knowsC c e).bumped = c.bumped := by
  unfold knowsC
  rw [if_neg h1, if_neg h5]
  split <;> exact ⟨rfl, rfl, rfl⟩
theorem setTh_ths {s : Sh} {i : Int} {n : Nat} {t : Th} (h : i.toNat = n) : (s.setTh i t).ths = s.ths.set n t := by unfold Sh.setTh; rw [h]
theorem told_step {s s' : Sh} {c : Cdr} {e : Ev} (ha : Agree s c) (h : stepS s e = some s') : tellsC s.ths.length s.vars s.n c e = true ∧ Agree s' (knowsC c e) := by
  unfold stepS at h
  split at h
  case isFalse => cases h
  rename_i hm
  obtain ⟨hk, hth, htx, hv, hat, hS⟩ := mayE_of hm
  obtain ⟨th, hthe⟩ := Int.eq_ofNat_of_zero_le hth.1
  have hlt : th < s.ths.length := by omega
  have htn : e.th.toNat = th := by omega
  have hT : s.th e.th = s.ths.getD th Th.zero := by unfold Sh.th; rw [htn]
  rw [hT] at h
  have hrv := ha.rv th hlt
  have hwv := ha.wv th hlt
  have turn := fun {s' : Sh} {c' : Cdr} {t' : Th} => Agree.turn (s' := s') (c' := c') (th := th) (t' := t') ha hlt
  generalize s.ths.getD th Th.zero = t at h hrv hwv turn
  rw [← hthe] at hrv hwv turn
  have hclk := ha.clk
  unfold tellsC
  rw [hm, Bool.true_and]
  unfold doesS at h
  by_cases k1 : e.kind = 1
  · rw [if_pos k1] at h
    unfold beginS at h; split at h
    case isFalse => cases h
    rename_i hc
    cases h
    have hkn : knowsC c e = { c with last := e.th, clock := e.v, begun := upd c.begun e.th e.v } := by unfold knowsC; rw [if_pos k1]
    refine ⟨by rw [if_pos k1]; exact decide_eq_true (by omega), ?_⟩
    rw [hkn]
    exact turn (setTh_ths htn) rfl (Or.inr rfl) (Or.inl ⟨rfl, fun h4 => absurd h4 (by simp)⟩)
  rw [if_neg k1] at h ⊢
  by_cases k5 : e.kind = 5
  · rw [if_neg (by omega), if_neg (by omega), if_neg (by omega), if_pos k5] at h
    unfold bumpS at h; split at h
    case isFalse => cases h
    rename_i hc
    cases h
    have hkn : knowsC c e = { c with last := e.th, clock := e.v, bumped := upd c.bumped e.th e.v } := by unfold knowsC; rw [if_neg k1, if_pos k5]
    refine ⟨by rw [if_neg (by omega), if_pos k5]; exact decide_eq_true (by omega), ?_⟩
    rw [hkn]
    exact turn (setTh_ths htn) rfl (Or.inl ⟨rfl, rfl⟩) (Or.inr rfl)
  obtain ⟨q1, q2, q3⟩ := knows_plain (c := c) k1 k5
  by_cases k2 : e.kind = 2
  · rw [if_pos k2] at h
    unfold lookS at h; split at h
    case isFalse => cases h
    rename_i hc
    cases h
    refine ⟨by rw [if_pos k2]; exact decide_eq_true (by omega), ?_⟩
    exact turn (setTh_ths htn) (by rw [q1]; exact hclk) (Or.inl ⟨q2, rfl⟩) (Or.inl ⟨q3, fun h4 => absurd h4 (by simp)⟩)
  rw [if_neg k2] at h ⊢
  rw [if_neg k5]
  by_cases k3 : e.kind = 3
  · rw [if_pos k3] at h
    unfold loadS at h; split at h
    case isFalse => cases h
    rename_i hc
    cases h
    refine ⟨by rw [if_neg (by omega)], ?_⟩
    exact turn (setTh_ths htn) (by rw [q1]; exact hclk) (Or.inl ⟨q2, rfl⟩) (Or.inl ⟨q3, fun h4 => absurd h4 (by simp)⟩)
  rw [if_neg k3] at h
  by_cases k4 : e.kind = 4
  · rw [if_pos k4] at h
    unfold lockS at h; split at h
    case isFalse => cases h
    rename_i hc
    cases h
    refine ⟨by rw [if_neg (by omega)], ?_⟩
    exact turn (setTh_ths htn) (by rw [q1]; exact hclk) (Or.inl ⟨q2, rfl⟩) (Or.inl ⟨q3, fun h4 => absurd h4 (by simp)⟩)
  rw [if_neg k4, if_neg k5] at h
  by_cases k6 : e.kind = 6
  · rw [if_pos k6] at h
    unfold checkS at h; split at h
    case isFalse => cases h
    rename_i hc
    cases h
    refine ⟨by rw [if_neg (by omega)], ?_⟩
    exact turn (setTh_ths htn) (by rw [q1]; exact hclk) (Or.inl ⟨q2, rfl⟩) (Or.inl ⟨q3, fun _ => ⟨hc.1, rfl⟩⟩)
  rw [if_neg k6] at h
  by_cases k7 : e.kind = 7
  · rw [if_pos k7] at h
    unfold commitS at h; split at h
    · rename_i hc
      cases h
      refine ⟨by rw [if_pos k7]; exact decide_eq_true (Or.inl hc.1), ?_⟩
      exact turn (setTh_ths htn) (by rw [q1]; exact hclk) (Or.inl ⟨q2, rfl⟩) (Or.inl ⟨q3, fun h4 => absurd h4 (by simp)⟩)
    · split at h
      case isFalse => cases h
      rename_i hc
      cases h
      refine ⟨by rw [if_pos k7]; exact decide_eq_true (Or.inr (hc.2.2.2.trans (hwv hc.2.1))), ?_⟩
      exact turn (setTh_ths htn) (by rw [q1]; exact hclk) (Or.inl ⟨q2, rfl⟩) (Or.inl ⟨q3, fun h4 => absurd h4 (by simp)⟩)
  rw [if_neg k7] at h
  refine ⟨by rw [if_neg k7], ?_⟩
  by_cases k8 : e.kind = 8
  · rw [if_pos k8] at h
    unfold storeS at h; split at h
    case isFalse => cases h
    rename_i hc
    cases h
    exact turn (setTh_ths htn) (by rw [q1]; exact hclk) (Or.inl ⟨q2, rfl⟩) (Or.inl ⟨q3, fun h4 => absurd (show t.at_ = 4 from h4) (by omega)⟩)
  rw [if_neg k8] at h
  by_cases k9 : e.kind = 9
  · rw [if_pos k9] at h
    unfold freedS at h; split at h
    case isFalse => cases h
    rename_i hc
    cases h
    refine turn (setTh_ths htn) (by rw [q1]; exact hclk) (Or.inl ⟨q2, ?_⟩) (Or.inl ⟨q3, fun h4 => ?_⟩)
    · split <;> rfl
    · split at h4 <;> exact absurd h4 (by simp)
  rw [if_neg k9] at h
  by_cases k10 : e.kind = 10
  · rw [if_pos k10] at h
    unfold abortS at h; split at h
    case isFalse => cases h
    rename_i hc
    cases h
    refine turn (setTh_ths htn) (by rw [q1]; exact hclk) (Or.inl ⟨q2, rfl⟩) (Or.inl ⟨q3, fun h4 => ?_⟩)
    dsimp only at h4
    split at h4 <;> omega
  rw [if_neg k10] at h
  by_cases k11 : e.kind = 11
  · rw [if_pos k11] at h
    unfold undoS at h; split at h
    case isFalse => cases h
    rename_i hc
    cases h
    refine turn (setTh_ths htn) (by rw [q1]; exact hclk) (Or.inl ⟨q2, rfl⟩) (Or.inl ⟨q3, fun h4 => ?_⟩)
    dsimp only at h4
    split at h4
    · split at h4 <;> omega
    · omega
  rw [if_neg k11] at h
  by_cases k12 : e.kind = 12
  · rw [if_pos k12] at h
    unfold waitS at h; split at h
    case isFalse => cases h
    rename_i hc
    cases h
    exact turn (setTh_ths htn) (by rw [q1]; exact hclk) (Or.inl ⟨q2, rfl⟩) (Or.inl ⟨q3, fun h4 => absurd h4 (by simp)⟩)
  rw [if_neg k12] at h
  unfold wakeS at h; split at h
  case isFalse => cases h
  rename_i hc
  cases h
  exact turn (setTh_ths htn) (by rw [q1]; exact hclk) (Or.inl ⟨q2, rfl⟩) (Or.inl ⟨q3, fun h4 => absurd h4 (by simp)⟩)
theorem stepS_sizes {s s' : Sh} {e : Ev} (h : stepS s e = some s') : s'.ths.length = s.ths.length ∧ s'.vars = s.vars ∧ s'.n = s.n := by
  obtain ⟨t', h1, -, h2, h3⟩ := stepS_keeps h
  exact ⟨by rw [h1, List.length_set], h2, by unfold Sh.n; rw [h3]⟩
theorem told_run : ∀ (l : List Ev) {s s' : Sh} {c : Cdr}, Agree s c → (∀ e ∈ l, -9223372036854775808 ≤ e.x ∧ e.x ≤ 9223372036854775807) → runS s l = some s' → ToldOk s.ths.length s.vars s.n c l
  | [], s, s', c, _, _, _ => trivial
  | e :: l, s, s', c, ha, hx, h => by
    rw [runS] at h
    cases hs : stepS s e with
    | none => rw [hs] at h; cases h
    | some s1 =>
      rw [hs] at h
      obtain ⟨h1, h2⟩ := told_step ha hs
      obtain ⟨e1, e2, e3⟩ := stepS_sizes hs
      have := told_run l h2 (fun e he => hx e (List.mem_cons_of_mem _ he)) h
      rw [e1, e2, e3] at this
      exact ⟨⟨h1, hx e (List.mem_cons_self ..)⟩, this⟩
theorem told_of_check {T V S : Int} {l : List Ev} (hx : ∀ e ∈ l, -9223372036854775808 ≤ e.x ∧ e.x ≤ 9223372036854775807) (h : (checkT T V S l).2 = 0) : sizeOk T V S = true ∧ l.length ≤ 1048576 ∧ ToldOk T V S newC l ∧ (l ≠ [] → 1 ≤ T) ∧ ∃ s, runS (newS T V S) l = some s := by
  unfold checkT at h
  split at h
  · cases h
  rename_i hz
  have hz : sizeOk T V S = true := by simpa using hz
  split at h
  · cases h
  rename_i hl
  split at h
  · cases h
  rename_i hc
  have hc : comesS (newS T V S) l = l.length := by have := comesS_le l (newS T V S); omega
  have hr : ∃ s, runS (newS T V S) l = some s := Option.isSome_iff_exists.1 ((comes_iff l (newS T V S)).1 hc)
  obtain ⟨s, hs⟩ := hr
  have hsz : 0 ≤ T ∧ T ≤ 6 ∧ 1 ≤ V ∧ V ≤ 32 ∧ 1 ≤ S ∧ S ≤ V := by unfold sizeOk at hz; exact of_decide_eq_true hz
  have e1 : ((newS T V S).ths.length : Int) = T := by unfold newS; simp; omega
  have e2 : (newS T V S).vars = V := rfl
  have e3 : (newS T V S).n = S := by unfold newS Sh.n; simp; omega
  have ht := told_run l Agree.new hx hs
  rw [e1, e2, e3] at ht
  refine ⟨hz, by omega, ht, fun hne => ?_, s, hs⟩
  cases l with
  | nil => exact absurd rfl hne
  | cons e r =>
    have := ht.1.1
    unfold tellsC at this
    rw [Bool.and_eq_true] at this
    exact (may_sizes' this.1).1.1
end Go.Proofs.YtnblhodhkifeeaaGreatDoor
/-
  Traces as bytes, plainly: the body, what a body is read as; that what is written is read so, and what is read is written so. Nothing of the program.
-/
namespace Go.Proofs.YtnblhodhkifeeaaGreatDoor
set_option linter.unusedVariables false
set_option linter.unusedSimpArgs false
def failW (r : Rdr) (place e : Nat) : Rdr := if r.err ≠ 0 then r else { r with at_ := place, err := e }
def sizeR (r : Rdr) (least most : Nat) : Nat × Rdr :=
  let a := numR r most
  (a.1, if a.2.err = 0 ∧ a.1 < least then failW a.2 r.at_ 20 else a.2)
def finR (r : Rdr) : Rdr := if r.err ≠ 0 then r else if r.at_ < r.s.length then { r with err := 10 } else r
def evR (T V S : Int) : Nat → Cdr → Sh → Rdr → List Ev × Rdr
  | 0, _, _, r => ([], r)
  | n + 1, c, s, r =>
    let a := readC T V S c r
    if a.2.1 ≠ 0 then ([], a.2.2.1)
    else match stepS s a.1 with
      | none => ([], failW a.2.2.1 r.at_ 4)
      | some s' => let b := evR T V S n a.2.2.2 s' a.2.2.1; (a.1 :: b.1, b.2)
structure Tr where
  T : Nat
  V : Nat
  S : Nat
  l : List Ev
def Tr.zero : Tr := ⟨0, 0, 0, []⟩
def headR (b : List Nat) : Nat × Nat × Nat × Nat × Rdr :=
  let a := sizeR ⟨b, 0, 0⟩ 0 6
  let v := sizeR a.2 1 32
  let s := sizeR v.2 1 v.1
  let m := sizeR s.2 0 (if a.1 = 0 then 0 else 1048576)
  (a.1, v.1, s.1, m.1, m.2)
def bodyR (b : List Nat) : Tr × Rdr :=
  let h := headR b
  let e := if h.2.2.2.2.err = 0 then evR h.1 h.2.1 h.2.2.1 h.2.2.2.1 newC (newS h.1 h.2.1 h.2.2.1) h.2.2.2.2 else ([], h.2.2.2.2)
  (⟨h.1, h.2.1, h.2.2.1, e.1⟩, finR e.2)
def bodyL (T V S : Int) (l : List Ev) : List Nat := putN T.toNat ++ putN V.toNat ++ putN S.toNat ++ putN l.length ++ bytesAll T newC l
theorem bodyL_byte (T V S : Int) (l : List Ev) : ∀ x ∈ bodyL T V S l, x < 256 := by
  have hb : ∀ n, ∀ x ∈ putN n, x < 256 := fun n => putF_byte 10 n
  have hc : ∀ (l : List Ev) (c : Cdr), ∀ x ∈ bytesAll T c l, x < 256 := by
    intro l
    induction l with
    | nil => intro c x hx; simp [bytesAll] at hx
    | cons e l ih =>
      intro c x hx
      rw [bytesAll] at hx
      rcases List.mem_append.1 hx with hx | hx
      · unfold bytesC at hx
        obtain ⟨n, -, hn⟩ := List.mem_flatMap.1 hx
        exact hb n x hn
      · exact ih _ x hx
  intro x hx
  unfold bodyL at hx
  simp only [List.mem_append] at hx
  rcases hx with (((hx | hx) | hx) | hx) | hx
  · exact hb _ x hx
  · exact hb _ x hx
  · exact hb _ x hx
  · exact hb _ x hx
  · exact hc l newC x hx
theorem evR_told {T V S : Int} {s0 : List Nat} {n : Nat} : ∀ (l a : List Ev) {c : Cdr} {s s' : Sh} {pre rest : List Nat}, OkC T c → ToldOk T V S c l → runS s l = some s' →
    s0 = pre ++ (bytesAll T c l ++ rest) → evR T V S l.length c s ⟨s0, pre.length, 0⟩ = (l, ⟨s0, (pre ++ bytesAll T c l).length, 0⟩)
  | [], a, c, s, s', pre, rest, _, _, _, _ => by simp [evR, bytesAll]
  | e :: l, a, c, s, s', pre, rest, hc, ht, hr, hs => by
    rw [List.length_cons, evR]
    dsimp only
    have hs1 : s0 = pre ++ (bytesC T c e ++ (bytesAll T (knowsC c e) l ++ rest)) := by rw [hs, bytesAll, List.append_assoc]
    have hrd := read_bytes (pre := pre) (rest := bytesAll T (knowsC c e) l ++ rest) hc ht.1.1 ht.1.2
    rw [← hs1] at hrd
    rw [hrd]
    dsimp only
    rw [if_neg (by simp)]
    rw [runS] at hr
    cases hst : stepS s e with
    | none => rw [hst] at hr; cases hr
    | some s1 =>
      rw [hst] at hr
      dsimp only
      have := evR_told (s0 := s0) (n := n) l a (pre := pre ++ bytesC T c e) (rest := rest) (okC_knows hc ht.1.1 ht.1.2) ht.2 hr (by rw [hs1]; simp)
      rw [this]
      dsimp only
      rw [bytesAll, List.append_assoc]
theorem sizeR_put {s pre rest : List Nat} {n least most : Nat} (hs : s = pre ++ (putN n ++ rest)) (h1 : least ≤ n) (h2 : n ≤ most) (hn : n < 18446744073709551616) : sizeR ⟨s, pre.length, 0⟩ least most = (n, ⟨s, (pre ++ putN n).length, 0⟩) := by
  unfold sizeR
  dsimp only
  rw [num_at hs h2 hn]
  dsimp only
  rw [if_neg (by omega)]
theorem body_back {T V S : Int} {l : List Ev} (hx : ∀ e ∈ l, -9223372036854775808 ≤ e.x ∧ e.x ≤ 9223372036854775807) (h : (checkT T V S l).2 = 0) :
    bodyR (bodyL T V S l) = (⟨T.toNat, V.toNat, S.toNat, l⟩, ⟨bodyL T V S l, (bodyL T V S l).length, 0⟩) := by
  obtain ⟨hz, hl, ht, hne, sf, hs⟩ := told_of_check hx h
  have hsz : 0 ≤ T ∧ T ≤ 6 ∧ 1 ≤ V ∧ V ≤ 32 ∧ 1 ≤ S ∧ S ≤ V := by unfold sizeOk at hz; exact of_decide_eq_true hz
  obtain ⟨b, hb⟩ : ∃ b, b = bodyL T V S l := ⟨_, rfl⟩
  rw [← hb]
  have hb' : b = putN T.toNat ++ putN V.toNat ++ putN S.toNat ++ putN l.length ++ bytesAll T newC l := hb
  have a1 : sizeR ⟨b, 0, 0⟩ 0 6 = (T.toNat, ⟨b, (putN T.toNat).length, 0⟩) := by
    have := sizeR_put (s := b) (pre := []) (rest := putN V.toNat ++ (putN S.toNat ++ (putN l.length ++ bytesAll T newC l))) (n := T.toNat) (least := 0) (most := 6) (by rw [hb']; simp) (by omega) (by omega) (by omega)
    simpa using this
  have a2 : sizeR ⟨b, (putN T.toNat).length, 0⟩ 1 32 = (V.toNat, ⟨b, (putN T.toNat ++ putN V.toNat).length, 0⟩) :=
    sizeR_put (s := b) (rest := putN S.toNat ++ (putN l.length ++ bytesAll T newC l)) (by rw [hb']; simp) (by omega) (by omega) (by omega)
  have a3 : sizeR ⟨b, (putN T.toNat ++ putN V.toNat).length, 0⟩ 1 V.toNat = (S.toNat, ⟨b, (putN T.toNat ++ putN V.toNat ++ putN S.toNat).length, 0⟩) :=
    sizeR_put (s := b) (rest := putN l.length ++ bytesAll T newC l) (by rw [hb']; simp) (by omega) (by omega) (by omega)
  have a4 : sizeR ⟨b, (putN T.toNat ++ putN V.toNat ++ putN S.toNat).length, 0⟩ 0 (if T.toNat = 0 then 0 else 1048576) = (l.length, ⟨b, (putN T.toNat ++ putN V.toNat ++ putN S.toNat ++ putN l.length).length, 0⟩) :=
    sizeR_put (s := b) (rest := bytesAll T newC l) (by rw [hb']; simp) (by omega) (by
      split
      · rename_i h0
        rcases Nat.eq_zero_or_pos l.length with h | h
        · omega
        · have := hne (List.length_pos_iff.1 h); omega
      · exact hl) (by omega)
  have e1 : ((T.toNat : Nat) : Int) = T := by omega
  have e2 : ((V.toNat : Nat) : Int) = V := by omega
  have e3 : ((S.toNat : Nat) : Int) = S := by omega
  have hh : headR b = (T.toNat, V.toNat, S.toNat, l.length, ⟨b, (putN T.toNat ++ putN V.toNat ++ putN S.toNat ++ putN l.length).length, 0⟩) := by
    unfold headR
    dsimp only
    rw [a1]; dsimp only
    rw [a2]; dsimp only
    rw [a3]; dsimp only
    rw [a4]
  have hev : evR T V S l.length newC (newS T V S) ⟨b, (putN T.toNat ++ putN V.toNat ++ putN S.toNat ++ putN l.length).length, 0⟩ = (l, ⟨b, b.length, 0⟩) := by
    cases hl0 : l with
    | nil => subst hl0; rw [hb']; simp [evR, bytesAll]
    | cons e r =>
      have hT : 1 ≤ T := hne (by rw [hl0]; simp)
      rw [← hl0]
      have := evR_told (n := 0) (s0 := b) l [] (pre := putN T.toNat ++ putN V.toNat ++ putN S.toNat ++ putN l.length) (rest := []) (okC_new hT) ht hs (by rw [hb']; simp)
      rw [this]
      congr 2
      rw [hb']
  unfold bodyR
  rw [hh]
  dsimp only
  rw [if_pos rfl, e1, e2, e3, hev]
  dsimp only
  unfold finR
  dsimp only
  rw [if_neg (by simp), if_neg (Nat.lt_irrefl _)]
end Go.Proofs.YtnblhodhkifeeaaGreatDoor
/-
  Traces as bytes, plainly: places and errors; what is read is well-formed, and written so. Nothing of the program.
-/
namespace Go.Proofs.YtnblhodhkifeeaaGreatDoor
set_option linter.unusedVariables false
set_option linter.unusedSimpArgs false
def CodeR (e : Nat) : Prop := e = 0 ∨ e = 8 ∨ e = 10 ∨ e = 11 ∨ e = 20 ∨ e = 4
structure RdE (b : List Nat) (r : Rdr) : Prop where
  s : r.s = b
  at_ : r.at_ ≤ b.length
  e : CodeR r.err
theorem getF_code : ∀ (k i a u : Nat) (l : List Nat), CodeR (getF k i a u l).2.2
  | 0, _, _, _, _ => by unfold getF CodeR; simp
  | _ + 1, _, _, _, [] => by unfold getF CodeR; simp
  | k + 1, i, a, u, b :: bs => by
    unfold getF
    split
    · unfold CodeR; simp
    split
    · split
      · unfold CodeR; simp
      · unfold CodeR; simp
    · exact getF_code k _ _ _ bs
theorem numR_e {b : List Nat} (hb : ∀ x ∈ b, x < 256) {r : Rdr} (h : RdE b r) (m : Nat) : RdE b (numR r m).2 ∧ r.at_ ≤ (numR r m).2.at_ := by
  obtain ⟨h1, h2, h3⟩ := h
  unfold numR
  split
  · exact ⟨⟨h1, h2, h3⟩, Nat.le_refl _⟩
  · obtain ⟨⟨n0, size, e⟩, hg⟩ : ∃ x, getN (r.s.drop r.at_) = x := ⟨_, rfl⟩
    rw [hg]
    dsimp only
    split
    · have := getF_code 10 0 0 1 (r.s.drop r.at_)
      have he : (getF 10 0 0 1 (r.s.drop r.at_)).2.2 = e := by
        have : getF 10 0 0 1 (r.s.drop r.at_) = getN (r.s.drop r.at_) := rfl
        rw [this, hg]
      rw [he] at this
      exact ⟨⟨h1, h2, this⟩, Nat.le_refl _⟩
    · rename_i he
      have he0 : e = 0 := by simpa using he
      subst he0
      split
      · exact ⟨⟨h1, h2, by unfold CodeR; simp⟩, Nat.le_refl _⟩
      · obtain ⟨g1, g2, g3, g4, g5⟩ := put_get (fun x hx => hb x (by rw [← h1]; exact List.mem_of_mem_drop hx)) hg
        rw [List.length_drop, h1] at g4
        exact ⟨⟨h1, by dsimp only; omega, h3⟩, Nat.le_add_right _ _⟩
theorem failW_e {b : List Nat} {r : Rdr} (h : RdE b r) {p e : Nat} (hp : p ≤ b.length) (he : CodeR e) : RdE b (failW r p e) := by
  unfold failW
  split
  · exact h
  · exact ⟨h.s, hp, he⟩
theorem failR_e {b : List Nat} {r : Rdr} (h : RdE b r) {p : Nat} (hp : p ≤ b.length) : RdE b (failR r p) := by
  unfold failR
  split
  · exact h
  · exact ⟨h.s, hp, by unfold CodeR; simp⟩
theorem sizeR_e {b : List Nat} (hb : ∀ x ∈ b, x < 256) {r : Rdr} (h : RdE b r) (least most : Nat) : RdE b (sizeR r least most).2 := by
  unfold sizeR
  dsimp only
  split
  · exact failW_e (numR_e hb h most).1 h.at_ (by unfold CodeR; simp)
  · exact (numR_e hb h most).1
theorem lineR_e {b : List Nat} (hb : ∀ x ∈ b, x < 256) (T V S : Int) (c : Cdr) {r : Rdr} (h : RdE b r) : RdE b (lineR T V S c r).2 := by
  unfold lineR
  dsimp only
  have h0 := (numR_e hb h (13 * T - 1).toNat).1
  generalize numR r (13 * T - 1).toNat = a at h0 ⊢
  obtain ⟨n, ra⟩ := a
  dsimp only at h0 ⊢
  have h1 : ∀ (m : Nat), RdE b (numR ra m).2 := fun m => (numR_e hb h0 m).1
  have h2 : ∀ (m m' : Nat), RdE b (numR (numR ra m).2 m').2 := fun m m' => (numR_e hb (h1 m) m').1
  have h3 : ∀ (m : Nat), RdE b (failR (numR ra m).2 ra.at_) := fun m => failR_e (h1 m) h0.at_
  repeat' split
  all_goals (dsimp only)
  all_goals first
    | exact h2 _ _
    | exact h1 _
    | exact h0
    | exact h3 _
    | (split; · exact h3 _
       · exact h1 _)
theorem readC_e {b : List Nat} (hb : ∀ x ∈ b, x < 256) (T V S : Int) (c : Cdr) {r : Rdr} (h : RdE b r) : RdE b (readC T V S c r).2.2.1 := by
  unfold readC
  dsimp only
  split
  · exact lineR_e hb T V S c h
  · exact lineR_e hb T V S c h
theorem evR_e {b : List Nat} (hb : ∀ x ∈ b, x < 256) (T V S : Int) : ∀ (n : Nat) (c : Cdr) (s : Sh) {r : Rdr}, RdE b r → RdE b (evR T V S n c s r).2
  | 0, _, _, _, h => h
  | n + 1, c, s, r, h => by
    rw [evR]
    dsimp only
    have h1 := readC_e hb T V S c h
    split
    · exact h1
    · split
      · exact failW_e h1 h.at_ (by unfold CodeR; simp)
      · exact evR_e hb T V S n _ _ h1
theorem finR_e {b : List Nat} {r : Rdr} (h : RdE b r) : RdE b (finR r) := by
  unfold finR
  split
  · exact h
  · split
    · exact ⟨h.s, h.at_, by unfold CodeR; simp⟩
    · exact h
theorem headR_e {b : List Nat} (hb : ∀ x ∈ b, x < 256) : RdE b (headR b).2.2.2.2 := by
  unfold headR
  dsimp only
  have h1 := sizeR_e hb (r := ⟨b, 0, 0⟩) ⟨rfl, Nat.zero_le _, Or.inl rfl⟩ 0 6
  generalize sizeR ⟨b, 0, 0⟩ 0 6 = a1 at h1 ⊢
  have h2 := sizeR_e hb h1 1 32
  generalize sizeR a1.2 1 32 = a2 at h2 ⊢
  have h3 := sizeR_e hb h2 1 a2.1
  generalize sizeR a2.2 1 a2.1 = a3 at h3 ⊢
  exact sizeR_e hb h3 0 _
theorem body_place {b : List Nat} (hb : ∀ x ∈ b, x < 256) : RdE b (bodyR b).2 := by
  unfold bodyR
  dsimp only
  have h1 := headR_e hb
  generalize headR b = h at h1 ⊢
  obtain ⟨T, V, S, m, r⟩ := h
  dsimp only at h1 ⊢
  refine finR_e ?_
  split
  · exact evR_e hb T V S m newC (newS T V S) h1
  · exact h1
theorem evR_fine {b : List Nat} (hb : ∀ x ∈ b, x < 256) {T V S : Int} (hsz : 1 ≤ T ∧ T ≤ 6 ∧ 1 ≤ V ∧ V ≤ 32 ∧ 1 ≤ S ∧ S ≤ V) : ∀ (n : Nat) {c : Cdr} {s : Sh} {at_ : Nat} {l : List Ev} {r' : Rdr}, OkC T c → evR T V S n c s ⟨b, at_, 0⟩ = (l, r') → r'.err = 0 →
    l.length = n ∧ (∀ e ∈ l, -9223372036854775808 ≤ e.x ∧ e.x ≤ 9223372036854775807) ∧ (∃ s', runS s l = some s') ∧ r' = ⟨b, at_ + (bytesAll T c l).length, 0⟩ ∧ (b.drop at_).take (bytesAll T c l).length = bytesAll T c l
  | 0, c, s, at_, l, r', _, h, _ => by
    rw [evR] at h
    obtain ⟨rfl, rfl⟩ := Prod.mk.inj h
    exact ⟨rfl, (fun e he => by cases he), ⟨s, rfl⟩, by simp [bytesAll], by simp [bytesAll]⟩
  | n + 1, c, s, at_, l, r', hc, h, he => by
    rw [evR] at h
    dsimp only at h
    obtain ⟨⟨e1, r1⟩, hz⟩ : ∃ z, lineR T V S c ⟨b, at_, 0⟩ = z := ⟨_, rfl⟩
    by_cases he1 : r1.err = 0
    · obtain ⟨t1, t2, t3, t4⟩ := read_anew hsz hc hb hz he1
      have hrc : readC T V S c ⟨b, at_, 0⟩ = (e1, 0, r1, knowsC c e1) := by
        unfold readC; dsimp only; rw [hz]; dsimp only; rw [if_neg (by omega)]
      rw [hrc] at h
      dsimp only at h
      rw [if_neg (by simp)] at h
      cases hst : stepS s e1 with
      | none =>
        rw [hst] at h
        dsimp only at h
        obtain ⟨rfl, rfl⟩ := Prod.mk.inj h
        unfold failW at he
        rw [if_neg (by omega)] at he
        simp at he
      | some s1 =>
        rw [hst] at h
        dsimp only at h
        obtain ⟨⟨l2, r2⟩, hz2⟩ : ∃ z, evR T V S n (knowsC c e1) s1 r1 = z := ⟨_, rfl⟩
        rw [hz2] at h
        dsimp only at h
        obtain ⟨rfl, rfl⟩ := Prod.mk.inj h
        rw [t3] at hz2
        obtain ⟨q1, q2, ⟨s', q3⟩, q4, q5⟩ := evR_fine hb hsz n (okC_knows hc t1 t2) hz2 he
        refine ⟨by rw [List.length_cons, q1], ?_, ⟨s', by rw [runS, hst]; exact q3⟩, ?_, ?_⟩
        · intro x hx
          rcases List.mem_cons.1 hx with rfl | hx
          · exact t2
          · exact q2 x hx
        · rw [q4, bytesAll, List.length_append, Nat.add_assoc]
        · rw [bytesAll, List.length_append, List.take_add, t4, List.drop_drop, q5]
    · have hrc : readC T V S c ⟨b, at_, 0⟩ = (⟨0, 0, 0, 0, 0, 0, 0⟩, r1.err, r1, c) := by
        unfold readC; dsimp only; rw [hz]; dsimp only; rw [if_pos he1]
      rw [hrc] at h
      dsimp only at h
      rw [if_pos he1] at h
      obtain ⟨rfl, rfl⟩ := Prod.mk.inj h
      exact absurd he he1
theorem sizeR_err {r : Rdr} {least most : Nat} (h : r.err ≠ 0) : (sizeR r least most).2.err ≠ 0 := by
  unfold sizeR
  dsimp only
  rw [numR_err h]
  dsimp only
  rw [if_neg (fun h' => h h'.1)]
  exact h
theorem sizeR_fine {b : List Nat} (hb : ∀ x ∈ b, x < 256) {at_ least most : Nat} (h : (sizeR ⟨b, at_, 0⟩ least most).2.err = 0) :
    ∃ n, sizeR ⟨b, at_, 0⟩ least most = (n, ⟨b, at_ + (putN n).length, 0⟩) ∧ least ≤ n ∧ n ≤ most ∧ (b.drop at_).take (putN n).length = putN n := by
  obtain ⟨⟨n, r'⟩, hz⟩ : ∃ z, numR ⟨b, at_, 0⟩ most = z := ⟨_, rfl⟩
  unfold sizeR at h ⊢
  dsimp only at h ⊢
  rw [hz] at h ⊢
  dsimp only at h ⊢
  split at h
  · rename_i hc
    unfold failW at h
    rw [if_neg (by omega)] at h
    simp at h
  · rename_i hc
    obtain ⟨h1, h2, h3, h4, h5⟩ := num_back hb hz h
    have hl : least ≤ n := by
      rcases Nat.lt_or_ge n least with h' | h'
      · exact absurd ⟨h, h'⟩ hc
      · exact h'
    exact ⟨n, by rw [if_neg hc, h1], hl, h3, h2⟩
theorem body_anew {b : List Nat} (hb : ∀ x ∈ b, x < 256) {t : Tr} {r : Rdr} (h : bodyR b = (t, r)) (he : r.err = 0) :
    (checkT t.T t.V t.S t.l).2 = 0 ∧ (∀ e ∈ t.l, -9223372036854775808 ≤ e.x ∧ e.x ≤ 9223372036854775807) ∧ bodyL t.T t.V t.S t.l = b := by
  unfold bodyR at h
  dsimp only at h
  obtain ⟨rfl, rfl⟩ := Prod.mk.inj h
  have hh : (headR b).2.2.2.2.err = 0 := by
    rcases Nat.eq_zero_or_pos (headR b).2.2.2.2.err with h' | h'
    · exact h'
    · rw [if_neg (by omega)] at he
      unfold finR at he
      dsimp only at he
      rw [if_pos (by omega)] at he
      exact he
  rw [if_pos hh] at he ⊢
  unfold headR at hh he ⊢
  dsimp only at hh he ⊢
  have e3 : (sizeR (sizeR (sizeR ⟨b, 0, 0⟩ 0 6).2 1 32).2 1 (sizeR (sizeR ⟨b, 0, 0⟩ 0 6).2 1 32).1).2.err = 0 := by
    rcases Nat.eq_zero_or_pos (sizeR (sizeR (sizeR ⟨b, 0, 0⟩ 0 6).2 1 32).2 1 (sizeR (sizeR ⟨b, 0, 0⟩ 0 6).2 1 32).1).2.err with h' | h'
    · exact h'
    · exact absurd hh (sizeR_err (by omega))
  have e2 : (sizeR (sizeR ⟨b, 0, 0⟩ 0 6).2 1 32).2.err = 0 := by
    rcases Nat.eq_zero_or_pos (sizeR (sizeR ⟨b, 0, 0⟩ 0 6).2 1 32).2.err with h' | h'
    · exact h'
    · exact absurd e3 (sizeR_err (by omega))
  have e1 : (sizeR ⟨b, 0, 0⟩ 0 6).2.err = 0 := by
    rcases Nat.eq_zero_or_pos (sizeR ⟨b, 0, 0⟩ 0 6).2.err with h' | h'
    · exact h'
    · exact absurd e2 (sizeR_err (by omega))
  obtain ⟨T, a1, l1, m1, p1⟩ := sizeR_fine hb e1
  rw [a1] at e2 e3 hh he ⊢
  dsimp only at e2 e3 hh he ⊢
  obtain ⟨V, a2, l2, m2, p2⟩ := sizeR_fine hb e2
  rw [a2] at e3 hh he ⊢
  dsimp only at e3 hh he ⊢
  obtain ⟨S, a3, l3, m3, p3⟩ := sizeR_fine hb e3
  rw [a3] at hh he ⊢
  dsimp only at hh he ⊢
  obtain ⟨m, a4, l4, m4, p4⟩ := sizeR_fine hb hh
  rw [a4] at he ⊢
  dsimp only at he ⊢
  have hm : m ≤ 1048576 := by
    split at m4 <;> omega
  have hm0 : T = 0 → m = 0 := fun h0 => by rw [if_pos h0] at m4; omega
  rw [Nat.zero_add] at he p2 p3 p4 ⊢
  rw [List.drop_zero] at p1
  obtain ⟨⟨l, r'⟩, hz⟩ : ∃ z, evR (T : Int) V S m newC (newS T V S) ⟨b, (putN T).length + (putN V).length + (putN S).length + (putN m).length, 0⟩ = z := ⟨_, rfl⟩
  rw [hz] at he ⊢
  dsimp only at he ⊢
  have hr' : r'.err = 0 ∧ r'.s.length ≤ r'.at_ := by
    unfold finR at he
    split at he
    · rename_i h'; exact absurd he h'
    · rename_i h'
      split at he
      · simp at he
      · exact ⟨by simpa using h', by omega⟩
  have key : l.length = m ∧ (∀ e ∈ l, -9223372036854775808 ≤ e.x ∧ e.x ≤ 9223372036854775807) ∧ (∃ s', runS (newS T V S) l = some s') ∧ r' = ⟨b, (putN T).length + (putN V).length + (putN S).length + (putN m).length + (bytesAll T newC l).length, 0⟩ ∧ (b.drop ((putN T).length + (putN V).length + (putN S).length + (putN m).length)).take (bytesAll T newC l).length = bytesAll T newC l := by
    by_cases hT : T = 0
    · have := hm0 hT
      subst this
      rw [evR] at hz
      obtain ⟨rfl, rfl⟩ := Prod.mk.inj hz
      exact ⟨rfl, (fun e he => by cases he), ⟨_, rfl⟩, by simp [bytesAll], by simp [bytesAll]⟩
    · exact evR_fine hb ⟨by omega, by omega, by omega, by omega, by omega, by omega⟩ m (okC_new (by omega)) hz hr'.1
  obtain ⟨k1, k2, ⟨s', k3⟩, k4, k5⟩ := key
  have hend : b.length ≤ (putN T).length + (putN V).length + (putN S).length + (putN m).length + (bytesAll T newC l).length := by
    have := hr'.2
    rw [k4] at this
    exact this
  refine ⟨?_, k2, ?_⟩
  · have hsz : sizeOk (T : Int) V S = true := by unfold sizeOk; exact decide_eq_true (by omega)
    have hcm : comesS (newS (T : Int) V S) l = l.length := (comes_iff l _).2 (by rw [k3]; rfl)
    unfold checkT
    rw [if_neg (by rw [hsz]; simp), if_neg (by omega), if_neg (by rw [hcm]; omega)]
  · unfold bodyL
    rw [k1]
    simp only [Int.toNat_natCast]
    have f1 : b.take ((putN T).length + (putN V).length + (putN S).length + (putN m).length + (bytesAll T newC l).length) = putN T ++ putN V ++ putN S ++ putN m ++ bytesAll T newC l := by
      rw [List.take_add, List.take_add, List.take_add, List.take_add, p1, p2, p3, p4, k5]
    rw [List.take_of_length_le hend] at f1
    exact f1.symm
theorem bodyL_len {T V S : Int} {l : List Ev} (hx : ∀ e ∈ l, -9223372036854775808 ≤ e.x ∧ e.x ≤ 9223372036854775807) (h : (checkT T V S l).2 = 0) : (bodyL T V S l).length ≤ 40 + 12 * l.length ∧ l.length ≤ 1048576 := by
  obtain ⟨hz, hl, ht, hne, sf, hs⟩ := told_of_check hx h
  have h1 := putN_ten T.toNat
  have h2 := putN_ten V.toNat
  have h3 := putN_ten S.toNat
  have h4 := putN_ten l.length
  refine ⟨?_, hl⟩
  unfold bodyL
  simp only [List.length_append]
  cases hl0 : l with
  | nil => subst hl0; simp only [bytesAll, List.length_nil] at *; omega
  | cons e r =>
    have hT : 1 ≤ T := hne (by rw [hl0]; simp)
    rw [← hl0]
    have := bytesAll_len l (okC_new hT) ht
    omega
end Go.Proofs.YtnblhodhkifeeaaGreatDoor
/-
  The four numbers ahead of a body, one by one. Nothing of the program.
-/
namespace Go.Proofs.YtnblhodhkifeeaaGreatDoor
set_option linter.unusedVariables false
theorem headR_parts (u : List Nat) : ∃ T V S m r1 r2 r3 r4, headR u = (T, V, S, m, r4) ∧ sizeR ⟨u, 0, 0⟩ 0 6 = (T, r1) ∧ sizeR r1 1 32 = (V, r2) ∧ sizeR r2 1 V = (S, r3) ∧ sizeR r3 0 (if T = 0 then 0 else 1048576) = (m, r4) := by
  obtain ⟨T, r1, h1⟩ : ∃ T r1, sizeR ⟨u, 0, 0⟩ 0 6 = (T, r1) := ⟨_, _, rfl⟩
  obtain ⟨V, r2, h2⟩ : ∃ V r2, sizeR r1 1 32 = (V, r2) := ⟨_, _, rfl⟩
  obtain ⟨S, r3, h3⟩ : ∃ S r3, sizeR r2 1 V = (S, r3) := ⟨_, _, rfl⟩
  obtain ⟨m, r4, h4⟩ : ∃ m r4, sizeR r3 0 (if T = 0 then 0 else 1048576) = (m, r4) := ⟨_, _, rfl⟩
  refine ⟨T, V, S, m, r1, r2, r3, r4, ?_, h1, h2, h3, h4⟩
  unfold headR
  dsimp only
  rw [h1]; dsimp only
  rw [h2]; dsimp only
  rw [h3]; dsimp only
  rw [h4]
theorem sizeR_most (r : Rdr) (least most : Nat) : (sizeR r least most).1 ≤ most := by
  unfold sizeR
  dsimp only
  unfold numR
  split
  · exact Nat.zero_le _
  · split
    split
    · exact Nat.zero_le _
    · split
      · exact Nat.zero_le _
      · dsimp only; omega
theorem bodyR_bad {u : List Nat} {T V S m : Nat} {r : Rdr} (hh : headR u = (T, V, S, m, r)) (he : r.err ≠ 0) : bodyR u = (⟨T, V, S, []⟩, r) := by
  unfold bodyR
  rw [hh]
  dsimp only
  rw [if_neg he]
  dsimp only
  unfold finR
  rw [if_pos he]
theorem bodyR_go {u : List Nat} {T V S m : Nat} {r : Rdr} (hh : headR u = (T, V, S, m, r)) (he : r.err = 0) : bodyR u = (⟨T, V, S, (evR T V S m newC (newS T V S) r).1⟩, finR (evR T V S m newC (newS T V S) r).2) := by
  unfold bodyR
  rw [hh]
  dsimp only
  rw [if_pos he]
theorem head_fits {u : List Nat} (hb : ∀ x ∈ u, x < 256) {T V S m : Nat} {r : Rdr} (hh : headR u = (T, V, S, m, r)) (he : r.err = 0) : T ≤ 6 ∧ 1 ≤ V ∧ V ≤ 32 ∧ 1 ≤ S ∧ S ≤ V ∧ m ≤ 1048576 ∧ (T = 0 → m = 0) := by
  obtain ⟨T', V', S', m', r1, r2, r3, r4, h0, h1, h2, h3, h4⟩ := headR_parts u
  rw [hh] at h0
  obtain ⟨e1, e2⟩ := Prod.mk.inj h0
  obtain ⟨e2, e3⟩ := Prod.mk.inj e2
  obtain ⟨e3, e4⟩ := Prod.mk.inj e3
  obtain ⟨e4, e5⟩ := Prod.mk.inj e4
  subst e1; subst e2; subst e3; subst e4; subst e5
  have n3 : r3.err = 0 := by
    rcases Nat.eq_zero_or_pos r3.err with h | h
    · exact h
    · have := sizeR_err (r := r3) (least := 0) (most := if T = 0 then 0 else 1048576) (by omega)
      rw [h4] at this; exact absurd he this
  have n2 : r2.err = 0 := by
    rcases Nat.eq_zero_or_pos r2.err with h | h
    · exact h
    · have := sizeR_err (r := r2) (least := 1) (most := V) (by omega)
      rw [h3] at this; exact absurd n3 this
  have n1 : r1.err = 0 := by
    rcases Nat.eq_zero_or_pos r1.err with h | h
    · exact h
    · have := sizeR_err (r := r1) (least := 1) (most := 32) (by omega)
      rw [h2] at this; exact absurd n2 this
  obtain ⟨T', a1, l1, m1, p1⟩ := sizeR_fine hb (at_ := 0) (least := 0) (most := 6) (by rw [h1]; exact n1)
  rw [h1] at a1
  obtain ⟨q1, q2⟩ := Prod.mk.inj a1
  subst q1; subst q2
  obtain ⟨V', a2, l2, m2, p2⟩ := sizeR_fine hb (least := 1) (most := 32) (by rw [h2]; exact n2)
  rw [h2] at a2
  obtain ⟨q1, q2⟩ := Prod.mk.inj a2
  subst q1; subst q2
  obtain ⟨S', a3, l3, m3, p3⟩ := sizeR_fine hb (least := 1) (most := V) (by rw [h3]; exact n3)
  rw [h3] at a3
  obtain ⟨q1, q2⟩ := Prod.mk.inj a3
  subst q1; subst q2
  have hm := sizeR_most ⟨u, 0 + (putN T).length + (putN V).length + (putN S).length, 0⟩ 0 (if T = 0 then 0 else 1048576)
  rw [h4] at hm
  dsimp only at hm
  refine ⟨m1, l2, m2, l3, m3, ?_, fun h0 => ?_⟩
  · split at hm <;> omega
  · rw [if_pos h0] at hm; omega
end Go.Proofs.YtnblhodhkifeeaaGreatDoor
