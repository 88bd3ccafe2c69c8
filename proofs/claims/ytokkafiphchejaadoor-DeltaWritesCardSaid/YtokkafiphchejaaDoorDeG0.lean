/-
  Joined texts: DeD DeD2 DeD3 DeD4 DeD5.
-/
import Derived.Test.YtokkafiphchejaaDoorShD
import Derived.Test.YtokkafiphchejaaDoorVar
/-
  Events as bytes, plainly: what a coder knows, what it writes, what it reads; and that what is written is read so. Nothing of the program.
-/
namespace Go.Proofs.YtokkafiphchejaaDoor
set_option linter.unusedVariables false
/-- What a coder knows. -/
structure Cdr where
  last : Int
  clock : Int
  begun : Int → Int
  bumped : Int → Int
  x : Int → Int
def newC : Cdr := ⟨0, 0, fun _ => 0, fun _ => 0, fun _ => 0⟩
def upd (f : Int → Int) (k v : Int) : Int → Int := fun j => if j = k then v else f j
def knowsC (c : Cdr) (e : Ev) : Cdr :=
  if e.kind = 1 then { c with last := e.th, clock := e.v, begun := upd c.begun e.th e.v }
  else if e.kind = 5 then { c with last := e.th, clock := e.v, bumped := upd c.bumped e.th e.v }
  else if e.kind = 3 ∨ e.kind = 8 then { c with last := e.th, x := upd c.x e.at_ e.x }
  else { c with last := e.th }
def tellsC (T V S : Int) (c : Cdr) (e : Ev) : Bool :=
  mayE e T V S && (if e.kind = 1 then decide (c.clock ≤ e.v) else if e.kind = 2 then decide (e.v ≤ c.begun e.th) else if e.kind = 5 then decide (c.clock < e.v) else if e.kind = 7 then decide (e.v = 0 ∨ e.v = c.bumped e.th) else true)
def w64 (n : Int) : Int := (n + 9223372036854775808) % 18446744073709551616 - 9223372036854775808
def zigZ (x : Int) : Nat := if 0 ≤ x then (2 * x).toNat else (-2 * x - 1).toNat
def zagZ (n : Nat) : Int := if n % 2 = 0 then (n / 2 : Nat) else -((n / 2 : Nat) : Int) - 1
theorem zag_zig (x : Int) : zagZ (zigZ x) = x := by
  unfold zagZ zigZ
  split <;> split <;> omega
theorem zig_zag (n : Nat) : zigZ (zagZ n) = n := by
  unfold zagZ zigZ
  split <;> split <;> omega
theorem zig_lt (x : Int) (h : -9223372036854775808 ≤ x ∧ x ≤ 9223372036854775807) : zigZ x < 18446744073709551616 := by
  unfold zigZ; split <;> omega
theorem zag_ok (n : Nat) (h : n < 18446744073709551616) : -9223372036854775808 ≤ zagZ n ∧ zagZ n ≤ 9223372036854775807 := by
  unfold zagZ; split <;> omega
/-- An event's first number. -/
def firstC (T : Int) (c : Cdr) (e : Ev) : Int := (e.kind - 1) * T + (e.th - c.last + T) % T
/-- The numbers behind it: those that are plain, those that are whole. -/
def numsC (c : Cdr) (e : Ev) : List Nat :=
  if e.kind = 1 then [e.tx.toNat, (e.v - c.clock).toNat] else if e.kind = 2 then [e.at_.toNat, (c.begun e.th - e.v).toNat]
  else if e.kind = 3 ∨ e.kind = 8 then [e.at_.toNat, zigZ (w64 (e.x - c.x e.at_))] else if e.kind = 4 ∨ e.kind = 6 ∨ e.kind = 9 ∨ e.kind = 11 then [e.at_.toNat]
  else if e.kind = 5 then [(e.v - c.clock).toNat] else if e.kind = 7 then [if e.v = 0 then 0 else 1] else if e.kind = 10 then (e.why - 1).toNat :: (if e.why = 6 then [] else [e.at_.toNat]) else []
def bytesC (T : Int) (c : Cdr) (e : Ev) : List Nat := ((firstC T c e).toNat :: numsC c e).flatMap putN
/-- A reader: what is left, its place, what was wrong. -/
structure Rdr where
  s : List Nat
  at_ : Nat
  err : Nat
def numR (r : Rdr) (most : Nat) : Nat × Rdr :=
  if r.err ≠ 0 then (0, r) else match getN (r.s.drop r.at_) with
  | (n, size, e) => if e ≠ 0 then (0, { r with err := e }) else if most < n then (0, { r with err := 20 }) else (n, { r with at_ := r.at_ + size })
def failR (r : Rdr) (place : Nat) : Rdr := if r.err ≠ 0 then r else { r with at_ := place, err := 20 }
def maxU : Nat := 18446744073709551615
def maxClockN : Int := 1099511627776
/-- What is read. -/
def lineR (T V S : Int) (c : Cdr) (r : Rdr) : Ev × Rdr :=
  let a := numR r (13 * T - 1).toNat
  let k := (a.1 : Int) / T + 1
  let th := ((a.1 : Int) % T + c.last) % T
  if k = 1 then let b := numR a.2 5; let d := numR b.2 (maxClockN - c.clock).toNat; (⟨k, th, b.1, 0, c.clock + d.1, 0, 0⟩, d.2)
  else if k = 2 then let b := numR a.2 (S - 1).toNat; let d := numR b.2 (c.begun th).toNat; (⟨k, th, 0, b.1, c.begun th - d.1, 0, 0⟩, d.2)
  else if k = 3 ∨ k = 8 then let b := numR a.2 (V - 1).toNat; let d := numR b.2 maxU; (⟨k, th, 0, b.1, 0, w64 (c.x b.1 + zagZ d.1), 0⟩, d.2)
  else if k = 4 ∨ k = 6 ∨ k = 9 ∨ k = 11 then let b := numR a.2 (S - 1).toNat; (⟨k, th, 0, b.1, 0, 0, 0⟩, b.2)
  else if k = 5 then let b := numR a.2 (maxClockN - c.clock).toNat; (⟨k, th, 0, 0, c.clock + b.1, 0, 0⟩, if b.1 = 0 then failR b.2 a.2.at_ else b.2)
  else if k = 7 then let b := numR a.2 1; if b.1 = 0 then (⟨k, th, 0, 0, 0, 0, 0⟩, b.2) else (⟨k, th, 0, 0, c.bumped th, 0, 0⟩, if c.bumped th = 0 then failR b.2 a.2.at_ else b.2)
  else if k = 10 then let b := numR a.2 5; if b.1 + 1 = 6 then (⟨k, th, 0, 0, 0, 0, b.1 + 1⟩, b.2) else let d := numR b.2 (S - 1).toNat; (⟨k, th, 0, d.1, 0, 0, b.1 + 1⟩, d.2)
  else (⟨k, th, 0, 0, 0, 0, 0⟩, a.2)
/-- Reading: the event, what is told, the reader, what the coder knows then. -/
def readC (T V S : Int) (c : Cdr) (r : Rdr) : Ev × Nat × Rdr × Cdr :=
  let a := lineR T V S c r
  if a.2.err ≠ 0 then (⟨0, 0, 0, 0, 0, 0, 0⟩, a.2.err, a.2, c) else (a.1, 0, a.2, knowsC c a.1)
/-- What holds of what a coder knows. -/
structure OkC (T : Int) (c : Cdr) : Prop where
  last : 0 ≤ c.last ∧ c.last < T
  clock : 0 ≤ c.clock ∧ c.clock ≤ maxClockN
  begun : ∀ t, 0 ≤ c.begun t ∧ c.begun t ≤ maxClockN
  bumped : ∀ t, 0 ≤ c.bumped t ∧ c.bumped t ≤ maxClockN
  xs : ∀ k, -9223372036854775808 ≤ c.x k ∧ c.x k ≤ 9223372036854775807
theorem okC_new {T : Int} (h : 1 ≤ T) : OkC T newC where
  last := ⟨by decide, by show (0 : Int) < T; omega⟩
  clock := ⟨by decide, by decide⟩
  begun _ := ⟨by show (0 : Int) ≤ 0; omega, by show (0 : Int) ≤ 1099511627776; omega⟩
  bumped _ := ⟨by show (0 : Int) ≤ 0; omega, by show (0 : Int) ≤ 1099511627776; omega⟩
  xs _ := ⟨by show (-9223372036854775808 : Int) ≤ 0; omega, by show (0 : Int) ≤ 9223372036854775807; omega⟩
theorem upd_ok {f : Int → Int} {k v a b : Int} (h : ∀ j, a ≤ f j ∧ f j ≤ b) (hv : a ≤ v ∧ v ≤ b) : ∀ j, a ≤ upd f k v j ∧ upd f k v j ≤ b := by
  intro j; unfold upd; split
  · exact hv
  · exact h j
/-- A number that was put is read. -/
theorem num_at {s pre rest : List Nat} {n most : Nat} (hs : s = pre ++ (putN n ++ rest)) (h : n ≤ most) (hn : n < 18446744073709551616) : numR ⟨s, pre.length, 0⟩ most = (n, ⟨s, (pre ++ putN n).length, 0⟩) := by
  subst hs
  unfold numR
  rw [if_neg (by simp)]
  dsimp only
  rw [List.drop_left, get_put n rest hn]
  dsimp only
  rw [if_neg (by simp), if_neg (by omega), List.length_append]
theorem may_sizes' {e : Ev} {T V S : Int} (h : mayE e T V S = true) : (1 ≤ T ∧ T ≤ 6 ∧ 1 ≤ V ∧ V ≤ 32 ∧ 1 ≤ S ∧ S ≤ V) ∧ (1 ≤ e.kind ∧ e.kind ≤ 13 ∧ (e.kind = 10 → 1 ≤ e.why ∧ e.why ≤ 6) ∧ 0 ≤ e.th ∧ e.th < T ∧ 0 ≤ e.tx ∧ e.tx ≤ 5 ∧ leastV e ≤ e.v ∧ e.v ≤ 1099511627776 ∧ 0 ≤ e.at_ ∧ e.at_ < placesE e V S) ∧ e = bareE e := by
  unfold mayE at h
  simp only [Bool.and_eq_true, sizesB, decide_eq_true_eq] at h
  exact ⟨h.1.1, h.1.2, Ev.ext' h.2.1 h.2.2.1 h.2.2.2.1 h.2.2.2.2.1 h.2.2.2.2.2.1 h.2.2.2.2.2.2.1 h.2.2.2.2.2.2.2⟩
theorem first_ok {T k th last : Int} (hT : 1 ≤ T ∧ T ≤ 6) (hk : 1 ≤ k ∧ k ≤ 13) (ht : 0 ≤ th ∧ th < T) (hl : 0 ≤ last ∧ last < T) :
    0 ≤ (k - 1) * T + (th - last + T) % T ∧ (k - 1) * T + (th - last + T) % T ≤ 13 * T - 1 ∧ ((k - 1) * T + (th - last + T) % T) / T + 1 = k ∧ (((k - 1) * T + (th - last + T) % T) % T + last) % T = th := by
  have : T = 1 ∨ T = 2 ∨ T = 3 ∨ T = 4 ∨ T = 5 ∨ T = 6 := by omega
  rcases this with rfl | rfl | rfl | rfl | rfl | rfl <;> omega
theorem w64_back (x y : Int) (hx : -9223372036854775808 ≤ x ∧ x ≤ 9223372036854775807) : w64 (y + w64 (x - y)) = x := by
  unfold w64; omega
theorem w64_ok (x : Int) : -9223372036854775808 ≤ w64 x ∧ w64 x ≤ 9223372036854775807 := by unfold w64; omega
/-- What is written is read so. -/
theorem read_bytes {T V S : Int} {c : Cdr} {e : Ev} {pre rest : List Nat} (hc : OkC T c) (ht : tellsC T V S c e = true) (hx : -9223372036854775808 ≤ e.x ∧ e.x ≤ 9223372036854775807) :
    readC T V S c ⟨pre ++ (bytesC T c e ++ rest), pre.length, 0⟩ = (e, 0, ⟨pre ++ (bytesC T c e ++ rest), (pre ++ bytesC T c e).length, 0⟩, knowsC c e) := by
  have ht0 := ht
  unfold tellsC at ht
  rw [Bool.and_eq_true] at ht
  obtain ⟨hm, hk2⟩ := ht
  obtain ⟨hs, ⟨k1, k2, hw, t1, t2, x1, x2, v1, v2, a1, a2⟩, hb⟩ := may_sizes' hm
  obtain ⟨f1, f2, f3, f4⟩ := first_ok (T := T) (k := e.kind) (th := e.th) (last := c.last) ⟨by omega, by omega⟩ ⟨k1, k2⟩ ⟨t1, t2⟩ hc.last
  have hcl := hc.clock
  have hbg := hc.begun e.th
  have hbu := hc.bumped e.th
  unfold maxClockN at hcl hbg hbu
  suffices hline : lineR T V S c ⟨pre ++ (bytesC T c e ++ rest), pre.length, 0⟩ = (e, ⟨pre ++ (bytesC T c e ++ rest), (pre ++ bytesC T c e).length, 0⟩) by
    unfold readC
    rw [hline]
    simp
  obtain ⟨n, hn⟩ : ∃ n : Nat, firstC T c e = (n : Int) := Int.eq_ofNat_of_zero_le f1
  have hn1 : firstC T c e = (e.kind - 1) * T + (e.th - c.last + T) % T := rfl
  rw [← hn1, hn] at f2 f3 f4
  have hbytes : bytesC T c e = putN n ++ (numsC c e).flatMap putN := by
    unfold bytesC; rw [hn, Int.toNat_natCast, List.flatMap_cons]
  rw [hbytes]
  generalize hs0 : pre ++ (putN n ++ (numsC c e).flatMap putN ++ rest) = s
  have h1 : numR ⟨s, pre.length, 0⟩ (13 * T - 1).toNat = (n, ⟨s, (pre ++ putN n).length, 0⟩) := num_at (rest := (numsC c e).flatMap putN ++ rest) (by rw [← hs0, List.append_assoc]) (by omega) (by omega)
  unfold lineR
  rw [h1]
  dsimp only
  rw [f3, f4]
  unfold leastV placesE at *
  obtain ⟨kind, th, tx, at_, v, x, why⟩ := e
  dsimp only at *
  have hc13 : kind = 1 ∨ kind = 2 ∨ kind = 3 ∨ kind = 4 ∨ kind = 5 ∨ kind = 6 ∨ kind = 7 ∨ kind = 8 ∨ kind = 9 ∨ kind = 10 ∨ kind = 11 ∨ kind = 12 ∨ kind = 13 := by omega
  clear f1 f2 f3 f4 hn hn1 hbytes ht0 hm h1
  rcases hc13 with rfl | rfl | rfl | rfl | rfl | rfl | rfl | rfl | rfl | rfl | rfl | rfl | rfl
  · unfold bareE at hb
    simp at hb hk2 v1 a2
    have hnum : numsC c ⟨1, th, tx, at_, v, x, why⟩ = [tx.toNat, (v - c.clock).toNat] := rfl
    rw [hnum] at hs0 ⊢
    rw [if_pos (by decide)]
    have g0 : numR ⟨s, (pre ++ putN n).length, 0⟩ (5) = (tx.toNat, ⟨s, ((pre ++ putN n) ++ putN (tx.toNat)).length, 0⟩) := num_at (rest := putN ((v - c.clock).toNat) ++ rest) (by rw [← hs0]; simp) (by omega) (by omega)
    rw [g0]
    dsimp only
    have g1 : numR ⟨s, ((pre ++ putN n) ++ putN (tx.toNat)).length, 0⟩ ((maxClockN - c.clock).toNat) = ((v - c.clock).toNat, ⟨s, (((pre ++ putN n) ++ putN (tx.toNat)) ++ putN ((v - c.clock).toNat)).length, 0⟩) := num_at (rest := rest) (by rw [← hs0]; simp) (by unfold maxClockN; omega) (by omega)
    rw [g1]
    dsimp only
    refine Prod.ext (Ev.ext' rfl rfl ?_ ?_ ?_ ?_ ?_) (by simp)
    all_goals (first | rfl | omega | (dsimp only; omega))
  · unfold bareE at hb
    simp at hb hk2 v1 a2
    have hnum : numsC c ⟨2, th, tx, at_, v, x, why⟩ = [at_.toNat, (c.begun th - v).toNat] := rfl
    rw [hnum] at hs0 ⊢
    rw [if_neg (by decide), if_pos (by decide)]
    have g0 : numR ⟨s, (pre ++ putN n).length, 0⟩ ((S - 1).toNat) = (at_.toNat, ⟨s, ((pre ++ putN n) ++ putN (at_.toNat)).length, 0⟩) := num_at (rest := putN ((c.begun th - v).toNat) ++ rest) (by rw [← hs0]; simp) (by omega) (by omega)
    rw [g0]
    dsimp only
    have g1 : numR ⟨s, ((pre ++ putN n) ++ putN (at_.toNat)).length, 0⟩ ((c.begun th).toNat) = ((c.begun th - v).toNat, ⟨s, (((pre ++ putN n) ++ putN (at_.toNat)) ++ putN ((c.begun th - v).toNat)).length, 0⟩) := num_at (rest := rest) (by rw [← hs0]; simp) (by omega) (by omega)
    rw [g1]
    dsimp only
    refine Prod.ext (Ev.ext' rfl rfl ?_ ?_ ?_ ?_ ?_) (by simp)
    all_goals (first | rfl | omega | (dsimp only; omega))
  · unfold bareE at hb
    simp at hb hk2 v1 a2
    have hnum : numsC c ⟨3, th, tx, at_, v, x, why⟩ = [at_.toNat, zigZ (w64 (x - c.x at_))] := rfl
    rw [hnum] at hs0 ⊢
    rw [if_neg (by decide), if_neg (by decide), if_pos (by decide)]
    have ea : ((at_.toNat : Nat) : Int) = at_ := by omega
    have g0 : numR ⟨s, (pre ++ putN n).length, 0⟩ ((V - 1).toNat) = (at_.toNat, ⟨s, ((pre ++ putN n) ++ putN (at_.toNat)).length, 0⟩) := num_at (rest := putN (zigZ (w64 (x - c.x at_))) ++ rest) (by rw [← hs0]; simp) (by omega) (by omega)
    rw [g0]
    dsimp only
    have g1 : numR ⟨s, ((pre ++ putN n) ++ putN (at_.toNat)).length, 0⟩ (maxU) = (zigZ (w64 (x - c.x at_)), ⟨s, (((pre ++ putN n) ++ putN (at_.toNat)) ++ putN (zigZ (w64 (x - c.x at_)))).length, 0⟩) := num_at (rest := rest) (by rw [← hs0]; simp) (by have := zig_lt _ (w64_ok (x - c.x at_)); unfold maxU; omega) (zig_lt _ (w64_ok _))
    rw [g1]
    dsimp only
    rw [ea, zag_zig, w64_back x _ hx]
    refine Prod.ext (Ev.ext' rfl rfl ?_ ?_ ?_ ?_ ?_) (by simp)
    all_goals (first | rfl | omega | (dsimp only; omega))
  · unfold bareE at hb
    simp at hb hk2 v1 a2
    have hnum : numsC c ⟨4, th, tx, at_, v, x, why⟩ = [at_.toNat] := rfl
    rw [hnum] at hs0 ⊢
    rw [if_neg (by decide), if_neg (by decide), if_neg (by decide), if_pos (by decide)]
    have g0 : numR ⟨s, (pre ++ putN n).length, 0⟩ ((S - 1).toNat) = (at_.toNat, ⟨s, ((pre ++ putN n) ++ putN (at_.toNat)).length, 0⟩) := num_at (rest := rest) (by rw [← hs0]; simp) (by omega) (by omega)
    rw [g0]
    dsimp only
    refine Prod.ext (Ev.ext' rfl rfl ?_ ?_ ?_ ?_ ?_) (by simp)
    all_goals (first | rfl | omega | (dsimp only; omega))
  · unfold bareE at hb
    simp at hb hk2 v1 a2
    have hnum : numsC c ⟨5, th, tx, at_, v, x, why⟩ = [(v - c.clock).toNat] := rfl
    rw [hnum] at hs0 ⊢
    rw [if_neg (by decide), if_neg (by decide), if_neg (by decide), if_neg (by decide), if_pos (by decide)]
    have g0 : numR ⟨s, (pre ++ putN n).length, 0⟩ ((maxClockN - c.clock).toNat) = ((v - c.clock).toNat, ⟨s, ((pre ++ putN n) ++ putN ((v - c.clock).toNat)).length, 0⟩) := num_at (rest := rest) (by rw [← hs0]; simp) (by unfold maxClockN; omega) (by omega)
    rw [g0]
    dsimp only
    rw [if_neg (by omega)]
    refine Prod.ext (Ev.ext' rfl rfl ?_ ?_ ?_ ?_ ?_) (by simp)
    all_goals (first | rfl | omega | (dsimp only; omega))
  · unfold bareE at hb
    simp at hb hk2 v1 a2
    have hnum : numsC c ⟨6, th, tx, at_, v, x, why⟩ = [at_.toNat] := rfl
    rw [hnum] at hs0 ⊢
    rw [if_neg (by decide), if_neg (by decide), if_neg (by decide), if_pos (by decide)]
    have g0 : numR ⟨s, (pre ++ putN n).length, 0⟩ ((S - 1).toNat) = (at_.toNat, ⟨s, ((pre ++ putN n) ++ putN (at_.toNat)).length, 0⟩) := num_at (rest := rest) (by rw [← hs0]; simp) (by omega) (by omega)
    rw [g0]
    dsimp only
    refine Prod.ext (Ev.ext' rfl rfl ?_ ?_ ?_ ?_ ?_) (by simp)
    all_goals (first | rfl | omega | (dsimp only; omega))
  · unfold bareE at hb
    simp at hb hk2 v1 a2
    have hnum : numsC c ⟨7, th, tx, at_, v, x, why⟩ = [if v = 0 then 0 else 1] := rfl
    rw [hnum] at hs0 ⊢
    rw [if_neg (by decide), if_neg (by decide), if_neg (by decide), if_neg (by decide), if_neg (by decide), if_pos (by decide)]
    by_cases hv : v = 0
    · rw [if_pos hv] at hs0 ⊢
      have g0 : numR ⟨s, (pre ++ putN n).length, 0⟩ (1) = (0, ⟨s, ((pre ++ putN n) ++ putN (0)).length, 0⟩) := num_at (rest := rest) (by rw [← hs0]; simp) (by omega) (by omega)
      rw [g0]
      dsimp only
      rw [if_pos rfl]
      refine Prod.ext (Ev.ext' rfl rfl ?_ ?_ ?_ ?_ ?_) (by simp)
      all_goals (first | rfl | omega | (dsimp only; omega))
    · rw [if_neg hv] at hs0 ⊢
      have g0 : numR ⟨s, (pre ++ putN n).length, 0⟩ (1) = (1, ⟨s, ((pre ++ putN n) ++ putN (1)).length, 0⟩) := num_at (rest := rest) (by rw [← hs0]; simp) (by omega) (by omega)
      rw [g0]
      dsimp only
      rw [if_neg (by decide), if_neg (by omega)]
      refine Prod.ext (Ev.ext' rfl rfl ?_ ?_ ?_ ?_ ?_) (by simp)
      all_goals (first | rfl | omega | (dsimp only; omega))
  · unfold bareE at hb
    simp at hb hk2 v1 a2
    have hnum : numsC c ⟨8, th, tx, at_, v, x, why⟩ = [at_.toNat, zigZ (w64 (x - c.x at_))] := rfl
    rw [hnum] at hs0 ⊢
    rw [if_neg (by decide), if_neg (by decide), if_pos (by decide)]
    have ea : ((at_.toNat : Nat) : Int) = at_ := by omega
    have g0 : numR ⟨s, (pre ++ putN n).length, 0⟩ ((V - 1).toNat) = (at_.toNat, ⟨s, ((pre ++ putN n) ++ putN (at_.toNat)).length, 0⟩) := num_at (rest := putN (zigZ (w64 (x - c.x at_))) ++ rest) (by rw [← hs0]; simp) (by omega) (by omega)
    rw [g0]
    dsimp only
    have g1 : numR ⟨s, ((pre ++ putN n) ++ putN (at_.toNat)).length, 0⟩ (maxU) = (zigZ (w64 (x - c.x at_)), ⟨s, (((pre ++ putN n) ++ putN (at_.toNat)) ++ putN (zigZ (w64 (x - c.x at_)))).length, 0⟩) := num_at (rest := rest) (by rw [← hs0]; simp) (by have := zig_lt _ (w64_ok (x - c.x at_)); unfold maxU; omega) (zig_lt _ (w64_ok _))
    rw [g1]
    dsimp only
    rw [ea, zag_zig, w64_back x _ hx]
    refine Prod.ext (Ev.ext' rfl rfl ?_ ?_ ?_ ?_ ?_) (by simp)
    all_goals (first | rfl | omega | (dsimp only; omega))
  · unfold bareE at hb
    simp at hb hk2 v1 a2
    have hnum : numsC c ⟨9, th, tx, at_, v, x, why⟩ = [at_.toNat] := rfl
    rw [hnum] at hs0 ⊢
    rw [if_neg (by decide), if_neg (by decide), if_neg (by decide), if_pos (by decide)]
    have g0 : numR ⟨s, (pre ++ putN n).length, 0⟩ ((S - 1).toNat) = (at_.toNat, ⟨s, ((pre ++ putN n) ++ putN (at_.toNat)).length, 0⟩) := num_at (rest := rest) (by rw [← hs0]; simp) (by omega) (by omega)
    rw [g0]
    dsimp only
    refine Prod.ext (Ev.ext' rfl rfl ?_ ?_ ?_ ?_ ?_) (by simp)
    all_goals (first | rfl | omega | (dsimp only; omega))
  · unfold bareE at hb
    simp at hb hk2 v1 a2
    have hw := hw rfl
    have hnum : numsC c ⟨10, th, tx, at_, v, x, why⟩ = (why - 1).toNat :: (if why = 6 then [] else [at_.toNat]) := rfl
    rw [hnum] at hs0 ⊢
    rw [if_neg (by decide), if_neg (by decide), if_neg (by decide), if_neg (by decide), if_neg (by decide), if_neg (by decide), if_pos (by decide)]
    by_cases hv : why = 6
    · rw [if_pos hv] at hs0 ⊢
      have g0 : numR ⟨s, (pre ++ putN n).length, 0⟩ (5) = ((why - 1).toNat, ⟨s, ((pre ++ putN n) ++ putN ((why - 1).toNat)).length, 0⟩) := num_at (rest := rest) (by rw [← hs0]; simp) (by omega) (by omega)
      rw [g0]
      dsimp only
      rw [if_pos (by omega)]
      refine Prod.ext (Ev.ext' rfl rfl ?_ ?_ ?_ ?_ ?_) (by simp)
      all_goals (first | rfl | omega | (dsimp only; omega))
    · rw [if_neg hv] at hs0 ⊢
      have g0 : numR ⟨s, (pre ++ putN n).length, 0⟩ (5) = ((why - 1).toNat, ⟨s, ((pre ++ putN n) ++ putN ((why - 1).toNat)).length, 0⟩) := num_at (rest := putN at_.toNat ++ rest) (by rw [← hs0]; simp) (by omega) (by omega)
      rw [g0]
      dsimp only
      rw [if_neg (by omega)]
      have g1 : numR ⟨s, ((pre ++ putN n) ++ putN ((why - 1).toNat)).length, 0⟩ ((S - 1).toNat) = (at_.toNat, ⟨s, (((pre ++ putN n) ++ putN ((why - 1).toNat)) ++ putN (at_.toNat)).length, 0⟩) := num_at (rest := rest) (by rw [← hs0]; simp) (by omega) (by omega)
      rw [g1]
      dsimp only
      refine Prod.ext (Ev.ext' rfl rfl ?_ ?_ ?_ ?_ ?_) (by simp)
      all_goals (first | rfl | omega | (dsimp only; omega))
  · unfold bareE at hb
    simp at hb hk2 v1 a2
    have hnum : numsC c ⟨11, th, tx, at_, v, x, why⟩ = [at_.toNat] := rfl
    rw [hnum] at hs0 ⊢
    rw [if_neg (by decide), if_neg (by decide), if_neg (by decide), if_pos (by decide)]
    have g0 : numR ⟨s, (pre ++ putN n).length, 0⟩ ((S - 1).toNat) = (at_.toNat, ⟨s, ((pre ++ putN n) ++ putN (at_.toNat)).length, 0⟩) := num_at (rest := rest) (by rw [← hs0]; simp) (by omega) (by omega)
    rw [g0]
    dsimp only
    refine Prod.ext (Ev.ext' rfl rfl ?_ ?_ ?_ ?_ ?_) (by simp)
    all_goals (first | rfl | omega | (dsimp only; omega))
  · unfold bareE at hb
    simp at hb hk2 v1 a2
    have hnum : numsC c ⟨12, th, tx, at_, v, x, why⟩ = [] := rfl
    rw [hnum] at hs0 ⊢
    rw [if_neg (by decide), if_neg (by decide), if_neg (by decide), if_neg (by decide), if_neg (by decide), if_neg (by decide), if_neg (by decide)]
    refine Prod.ext (Ev.ext' rfl rfl ?_ ?_ ?_ ?_ ?_) (by simp)
    all_goals (first | rfl | omega | (dsimp only; omega))
  · unfold bareE at hb
    simp at hb hk2 v1 a2
    have hnum : numsC c ⟨13, th, tx, at_, v, x, why⟩ = [] := rfl
    rw [hnum] at hs0 ⊢
    rw [if_neg (by decide), if_neg (by decide), if_neg (by decide), if_neg (by decide), if_neg (by decide), if_neg (by decide), if_neg (by decide)]
    refine Prod.ext (Ev.ext' rfl rfl ?_ ?_ ?_ ?_ ?_) (by simp)
    all_goals (first | rfl | omega | (dsimp only; omega))
end Go.Proofs.YtokkafiphchejaaDoor
/-
  More of events as bytes: what a coder knows stays in bounds; how long an event's bytes are; a number that was read. Nothing of the program.
-/
namespace Go.Proofs.YtokkafiphchejaaDoor
set_option linter.unusedVariables false
theorem okC_knows {T V S : Int} {c : Cdr} {e : Ev} (hc : OkC T c) (ht : tellsC T V S c e = true) (hx : -9223372036854775808 ≤ e.x ∧ e.x ≤ 9223372036854775807) : OkC T (knowsC c e) := by
  unfold tellsC at ht
  rw [Bool.and_eq_true] at ht
  obtain ⟨hm, hk2⟩ := ht
  obtain ⟨hs, ⟨k1, k2, hw, t1, t2, x1, x2, v1, v2, a1, a2⟩, hb⟩ := may_sizes' hm
  have hl : 0 ≤ leastV e := by unfold leastV; split <;> omega
  have hv : 0 ≤ e.v ∧ e.v ≤ maxClockN := by unfold maxClockN; omega
  unfold knowsC
  split
  · exact ⟨⟨t1, t2⟩, hv, upd_ok hc.begun hv, hc.bumped, hc.xs⟩
  · split
    · exact ⟨⟨t1, t2⟩, hv, hc.begun, upd_ok hc.bumped hv, hc.xs⟩
    · split
      · exact ⟨⟨t1, t2⟩, hc.clock, hc.begun, hc.bumped, upd_ok hc.xs hx⟩
      · exact ⟨⟨t1, t2⟩, hc.clock, hc.begun, hc.bumped, hc.xs⟩
theorem putF_few : ∀ (m k n : Nat), n < 128 ^ (k + 1) → (putF m n).length ≤ k + 1
  | 0, k, n, h => by simp [putF]
  | m + 1, k, n, h => by
    unfold putF
    split
    · simp
    · match k with
      | 0 => simp at h; omega
      | k + 1 =>
        have := putF_few m k (n / 128) (by rw [Nat.pow_succ] at h; omega)
        simp; omega
theorem putN_few (k n : Nat) (h : n < 128 ^ (k + 1)) : (putN n).length ≤ k + 1 := putF_few 10 k n h
theorem putN_ten (n : Nat) : (putN n).length ≤ 10 := putF_len 10 n
theorem putN_one (n : Nat) (h : n < 128) : (putN n).length = 1 := by
  unfold putN putF
  rw [if_pos h]; rfl
theorem flat_two {a b : Nat} {k : Nat} (h1 : (putN a).length ≤ 1) (h2 : (putN b).length ≤ k) : ([a, b].flatMap putN).length ≤ 1 + k := by
  simp only [List.flatMap_cons, List.flatMap_nil, List.append_nil, List.length_append]
  omega
/-- How many bytes an event has. -/
theorem bytes_len {T V S : Int} {c : Cdr} {e : Ev} (hc : OkC T c) (ht : tellsC T V S c e = true) : 1 ≤ (bytesC T c e).length ∧ (bytesC T c e).length ≤ 12 := by
  unfold tellsC at ht
  rw [Bool.and_eq_true] at ht
  obtain ⟨hm, hk2⟩ := ht
  obtain ⟨hs, ⟨k1, k2, hw, t1, t2, x1, x2, v1, v2, a1, a2⟩, hb⟩ := may_sizes' hm
  obtain ⟨f1, f2, -, -⟩ := first_ok (T := T) (k := e.kind) (th := e.th) (last := c.last) ⟨by omega, by omega⟩ ⟨k1, k2⟩ ⟨t1, t2⟩ hc.last
  have hn1 : firstC T c e = (e.kind - 1) * T + (e.th - c.last + T) % T := rfl
  rw [← hn1] at f1 f2
  have hcl := hc.clock
  have hbg := hc.begun e.th
  unfold maxClockN at hcl hbg
  have h1 : (putN (firstC T c e).toNat).length = 1 := putN_one _ (by omega)
  have hp : placesE e V S ≤ 32 := by unfold placesE; split <;> (try split) <;> omega
  have ha : (putN e.at_.toNat).length ≤ 1 := by rw [putN_one _ (by omega)]; omega
  have hl : 0 ≤ leastV e := by unfold leastV; split <;> omega
  have hrest : ((numsC c e).flatMap putN).length ≤ 11 := by
    unfold numsC
    split
    · exact flat_two (by rw [putN_one _ (by omega)]; omega) (putN_ten _)
    · split
      · exact flat_two ha (putN_ten _)
      · split
        · exact flat_two ha (putN_ten _)
        · split
          · simp only [List.flatMap_cons, List.flatMap_nil, List.append_nil]; omega
          · split
            · simp only [List.flatMap_cons, List.flatMap_nil, List.append_nil]; have := putN_ten (e.v - c.clock).toNat; omega
            · split
              · simp only [List.flatMap_cons, List.flatMap_nil, List.append_nil]; have := putN_ten (if e.v = 0 then 0 else 1); omega
              · split
                · rename_i h10
                  have := hw h10
                  have hy : (putN (e.why - 1).toNat).length ≤ 1 := by rw [putN_one _ (by omega)]; omega
                  split
                  · simp only [List.flatMap_cons, List.flatMap_nil, List.append_nil]; omega
                  · exact Nat.le_trans (flat_two hy ha) (by omega)
                · simp
  unfold bytesC
  rw [List.flatMap_cons, List.length_append]
  omega
theorem numR_err {r : Rdr} {m : Nat} (h : r.err ≠ 0) : numR r m = (0, r) := by unfold numR; rw [if_pos h]
/-- A number that was read stands there. -/
theorem num_back {s : List Nat} {at_ most n : Nat} {r' : Rdr} (hs : ∀ b ∈ s, b < 256) (h : numR ⟨s, at_, 0⟩ most = (n, r')) (he : r'.err = 0) :
    r' = ⟨s, at_ + (putN n).length, 0⟩ ∧ (s.drop at_).take (putN n).length = putN n ∧ n ≤ most ∧ n < 18446744073709551616 ∧ at_ + (putN n).length ≤ max at_ s.length := by
  unfold numR at h
  rw [if_neg (by simp)] at h
  dsimp only at h
  obtain ⟨⟨n0, size, e⟩, hg⟩ : ∃ x, getN (s.drop at_) = x := ⟨_, rfl⟩
  rw [hg] at h
  dsimp only at h
  split at h
  · rename_i hne
    obtain ⟨rfl, rfl⟩ := Prod.mk.inj h
    exact absurd he hne
  · rename_i hne
    have he0 : e = 0 := by simpa using hne
    subst he0
    split at h
    · obtain ⟨rfl, rfl⟩ := Prod.mk.inj h
      simp at he
    · rename_i hle
      obtain ⟨rfl, rfl⟩ := Prod.mk.inj h
      obtain ⟨g1, g2, g3, g4, g5⟩ := put_get (fun b hb => hs b (List.mem_of_mem_drop hb)) hg
      have hl : (putN n0).length = size := by
        rw [← g1, List.length_take]
        omega
      rw [List.length_drop] at g4
      refine ⟨by rw [hl], by rw [hl]; exact g1, by omega, g5, by rw [hl]; omega⟩
end Go.Proofs.YtokkafiphchejaaDoor
/-
  Events as bytes: what is read, written anew, are the bytes that were gone over; it may be told. Nothing of the program.
-/
namespace Go.Proofs.YtokkafiphchejaaDoor
set_option linter.unusedVariables false
theorem take_app {s A B : List Nat} {at_ : Nat} (h1 : (s.drop at_).take A.length = A) (h2 : (s.drop (at_ + A.length)).take B.length = B) : (s.drop at_).take (A ++ B).length = A ++ B := by
  rw [List.length_append, List.take_add, h1, List.drop_drop, h2]
theorem one_back {s : List Nat} {at1 m1 nb : Nat} {rb : Rdr} (hs : ∀ b ∈ s, b < 256) (hB : numR ⟨s, at1, 0⟩ m1 = (nb, rb)) (he : rb.err = 0) :
    rb = ⟨s, at1 + ([nb].flatMap putN).length, 0⟩ ∧ (s.drop at1).take ([nb].flatMap putN).length = [nb].flatMap putN ∧ nb ≤ m1 ∧ nb < 18446744073709551616 := by
  obtain ⟨h1, h2, h3, h4, -⟩ := num_back hs hB he
  simp only [List.flatMap_cons, List.flatMap_nil, List.append_nil]
  exact ⟨h1, h2, h3, h4⟩
theorem two_back {s : List Nat} {at1 m1 m2 nb nd : Nat} {rb rd : Rdr} (hs : ∀ b ∈ s, b < 256) (hB : numR ⟨s, at1, 0⟩ m1 = (nb, rb)) (hD : numR rb m2 = (nd, rd)) (he : rd.err = 0) :
    rd = ⟨s, at1 + ([nb, nd].flatMap putN).length, 0⟩ ∧ (s.drop at1).take ([nb, nd].flatMap putN).length = [nb, nd].flatMap putN ∧ nb ≤ m1 ∧ nd ≤ m2 ∧ nb < 18446744073709551616 ∧ nd < 18446744073709551616 := by
  have hrb : rb.err = 0 := by
    by_cases h : rb.err = 0
    · exact h
    · rw [numR_err h] at hD
      obtain ⟨-, rfl⟩ := Prod.mk.inj hD
      exact absurd he h
  obtain ⟨rfl, h2, h3, h4, -⟩ := num_back hs hB hrb
  obtain ⟨rfl, g2, g3, g4, -⟩ := num_back hs hD he
  have := take_app h2 g2
  simp only [List.flatMap_cons, List.flatMap_nil, List.append_nil]
  exact ⟨by rw [List.length_append, Nat.add_assoc], this, h3, g3, h4, g4⟩
theorem first_back {T last : Int} {n : Nat} (hT : 1 ≤ T ∧ T ≤ 6) (hl : 0 ≤ last ∧ last < T) (hn : (n : Int) ≤ 13 * T - 1) :
    (1 ≤ (n : Int) / T + 1 ∧ (n : Int) / T + 1 ≤ 13) ∧ (0 ≤ ((n : Int) % T + last) % T ∧ ((n : Int) % T + last) % T < T) ∧ ((n : Int) / T + 1 - 1) * T + (((n : Int) % T + last) % T - last + T) % T = (n : Int) := by
  have : T = 1 ∨ T = 2 ∨ T = 3 ∨ T = 4 ∨ T = 5 ∨ T = 6 := by omega
  rcases this with rfl | rfl | rfl | rfl | rfl | rfl <;> omega
theorem w64_id {x : Int} (h : -9223372036854775808 ≤ x ∧ x ≤ 9223372036854775807) : w64 x = x := by unfold w64; omega
theorem w64_diff (x y : Int) (hy : -9223372036854775808 ≤ y ∧ y ≤ 9223372036854775807) : w64 (w64 (x + y) - x) = y := by unfold w64; omega
theorem join_back {T : Int} {c : Cdr} {e : Ev} {s : List Nat} {at_ n : Nat} {r' : Rdr} {q : List Nat} (hf : firstC T c e = (n : Int)) (hq : numsC c e = q) (h1 : (s.drop at_).take (putN n).length = putN n) (h2 : (s.drop (at_ + (putN n).length)).take (q.flatMap putN).length = q.flatMap putN) (hr : r' = ⟨s, at_ + (putN n).length + (q.flatMap putN).length, 0⟩) :
    r' = ⟨s, at_ + (bytesC T c e).length, 0⟩ ∧ (s.drop at_).take (bytesC T c e).length = bytesC T c e := by
  have hb : bytesC T c e = putN n ++ q.flatMap putN := by unfold bytesC; rw [hf, hq, Int.toNat_natCast, List.flatMap_cons]
  rw [hb]
  exact ⟨by rw [hr, List.length_append, Nat.add_assoc], take_app h1 h2⟩
/-- What is read may be told, and its bytes are those that were gone over. -/
theorem read_anew {T V S : Int} {c : Cdr} {s : List Nat} {at_ : Nat} {e : Ev} {r' : Rdr} (hsz : 1 ≤ T ∧ T ≤ 6 ∧ 1 ≤ V ∧ V ≤ 32 ∧ 1 ≤ S ∧ S ≤ V) (hc : OkC T c) (hs : ∀ b ∈ s, b < 256) (h : lineR T V S c ⟨s, at_, 0⟩ = (e, r')) (he : r'.err = 0) :
    tellsC T V S c e = true ∧ (-9223372036854775808 ≤ e.x ∧ e.x ≤ 9223372036854775807) ∧ r' = ⟨s, at_ + (bytesC T c e).length, 0⟩ ∧ (s.drop at_).take (bytesC T c e).length = bytesC T c e := by
  unfold lineR at h
  obtain ⟨⟨n, ra⟩, hA⟩ : ∃ x, numR ⟨s, at_, 0⟩ (13 * T - 1).toNat = x := ⟨_, rfl⟩
  rw [hA] at h
  dsimp only at h
  by_cases hra : ra.err = 0
  case neg =>
    exfalso
    have e1 := fun m => numR_err (m := m) hra
    simp only [e1] at h
    repeat' split at h
    all_goals (
      obtain ⟨-, rfl⟩ := Prod.mk.inj h
      first
      | exact hra he
      | (unfold failR at he; rw [if_pos hra] at he; exact hra he))
  obtain ⟨rfl, p2, p3, p4, -⟩ := num_back hs hA hra
  clear hA hra
  have hcl := hc.clock
  have hbg := hc.begun
  have hbu := hc.bumped
  have hxs := hc.xs
  unfold maxClockN at hcl hbg hbu
  obtain ⟨q1, q2, q3⟩ := first_back (T := T) (last := c.last) (n := n) ⟨hsz.1, hsz.2.1⟩ hc.last (by omega)
  generalize (n : Int) / T + 1 = k at h q1 q3
  generalize ((n : Int) % T + c.last) % T = th at h q2 q3
  have hb1 := hbg th
  have hb2 := hbu th
  have hc13 : k = 1 ∨ k = 2 ∨ k = 3 ∨ k = 4 ∨ k = 5 ∨ k = 6 ∨ k = 7 ∨ k = 8 ∨ k = 9 ∨ k = 10 ∨ k = 11 ∨ k = 12 ∨ k = 13 := by omega
  have hmay : ∀ e : Ev, (1 ≤ e.kind ∧ e.kind ≤ 13 ∧ (e.kind = 10 → 1 ≤ e.why ∧ e.why ≤ 6) ∧ 0 ≤ e.th ∧ e.th < T ∧ 0 ≤ e.tx ∧ e.tx ≤ 5 ∧ leastV e ≤ e.v ∧ e.v ≤ 1099511627776 ∧ 0 ≤ e.at_ ∧ e.at_ < placesE e V S) → e = bareE e → mayE e T V S = true := by
    intro e h1 h2
    unfold mayE sizesB
    rw [decide_eq_true hsz, decide_eq_true h1, decide_eq_true (by rw [← h2]; exact ⟨rfl, rfl, rfl, rfl, rfl, rfl, rfl⟩)]
    rfl
  rcases hc13 with rfl | rfl | rfl | rfl | rfl | rfl | rfl | rfl | rfl | rfl | rfl | rfl | rfl
  · rw [if_pos (by decide)] at h
    obtain ⟨⟨nb, rb⟩, hB⟩ : ∃ x, numR ⟨s, at_ + (putN n).length, 0⟩ (5) = x := ⟨_, rfl⟩
    rw [hB] at h
    dsimp only at h
    obtain ⟨⟨nd, rd⟩, hD⟩ : ∃ x, numR rb ((maxClockN - c.clock).toNat) = x := ⟨_, rfl⟩
    rw [hD] at h
    dsimp only at h
    obtain ⟨rfl, rfl⟩ := Prod.mk.inj h
    obtain ⟨rfl, g2, g3, g4, g5, g6⟩ := two_back hs hB hD he
    obtain ⟨j1, j2⟩ := join_back (T := T) (c := c) (e := ⟨1, th, nb, 0, c.clock + nd, 0, 0⟩) (n := n) (q := [nb, nd]) q3 (by unfold numsC; dsimp only; rw [if_pos (by decide), Int.toNat_natCast, show (c.clock + (nd : Int) - c.clock).toNat = nd by omega]) p2 g2 rfl
    unfold maxClockN at g4
    refine ⟨?_, ?_, j1, j2⟩
    · unfold tellsC
      rw [hmay _ (by unfold leastV placesE; simp; try omega) (by unfold bareE; simp)]
      simp
      try omega
    · dsimp only
      omega
  · rw [if_neg (by decide), if_pos (by decide)] at h
    obtain ⟨⟨nb, rb⟩, hB⟩ : ∃ x, numR ⟨s, at_ + (putN n).length, 0⟩ ((S - 1).toNat) = x := ⟨_, rfl⟩
    rw [hB] at h
    dsimp only at h
    obtain ⟨⟨nd, rd⟩, hD⟩ : ∃ x, numR rb ((c.begun th).toNat) = x := ⟨_, rfl⟩
    rw [hD] at h
    dsimp only at h
    obtain ⟨rfl, rfl⟩ := Prod.mk.inj h
    obtain ⟨rfl, g2, g3, g4, g5, g6⟩ := two_back hs hB hD he
    obtain ⟨j1, j2⟩ := join_back (T := T) (c := c) (e := ⟨2, th, 0, nb, c.begun th - nd, 0, 0⟩) (n := n) (q := [nb, nd]) q3 (by unfold numsC; dsimp only; rw [if_neg (by decide), if_pos (by decide), Int.toNat_natCast, show (c.begun th - (c.begun th - (nd : Int))).toNat = nd by omega]) p2 g2 rfl
    refine ⟨?_, ?_, j1, j2⟩
    · unfold tellsC
      rw [hmay _ (by unfold leastV placesE; simp; try omega) (by unfold bareE; simp)]
      simp
      try omega
    · dsimp only
      omega
  · rw [if_neg (by decide), if_neg (by decide), if_pos (by decide)] at h
    obtain ⟨⟨nb, rb⟩, hB⟩ : ∃ x, numR ⟨s, at_ + (putN n).length, 0⟩ ((V - 1).toNat) = x := ⟨_, rfl⟩
    rw [hB] at h
    dsimp only at h
    obtain ⟨⟨nd, rd⟩, hD⟩ : ∃ x, numR rb (maxU) = x := ⟨_, rfl⟩
    rw [hD] at h
    dsimp only at h
    obtain ⟨rfl, rfl⟩ := Prod.mk.inj h
    obtain ⟨rfl, g2, g3, g4, g5, g6⟩ := two_back hs hB hD he
    have hz := zag_ok nd g6
    have hx := hxs nb
    obtain ⟨j1, j2⟩ := join_back (T := T) (c := c) (e := ⟨3, th, 0, nb, 0, w64 (c.x nb + zagZ nd), 0⟩) (n := n) (q := [nb, nd]) q3 (by unfold numsC; dsimp only; rw [if_neg (by decide), if_neg (by decide), if_pos (by decide), Int.toNat_natCast, w64_diff _ _ hz, zig_zag]) p2 g2 rfl
    refine ⟨?_, ?_, j1, j2⟩
    · unfold tellsC
      rw [hmay _ (by unfold leastV placesE; simp; try omega) (by unfold bareE; simp)]
      simp
      try omega
    · dsimp only
      exact w64_ok _
  · rw [if_neg (by decide), if_neg (by decide), if_neg (by decide), if_pos (by decide)] at h
    obtain ⟨⟨nb, rb⟩, hB⟩ : ∃ x, numR ⟨s, at_ + (putN n).length, 0⟩ ((S - 1).toNat) = x := ⟨_, rfl⟩
    rw [hB] at h
    dsimp only at h
    obtain ⟨rfl, rfl⟩ := Prod.mk.inj h
    obtain ⟨rfl, g2, g3, g4⟩ := one_back hs hB he
    obtain ⟨j1, j2⟩ := join_back (T := T) (c := c) (e := ⟨4, th, 0, nb, 0, 0, 0⟩) (n := n) (q := [nb]) q3 (by unfold numsC; dsimp only; rw [if_neg (by decide), if_neg (by decide), if_neg (by decide), if_pos (by decide), Int.toNat_natCast]) p2 g2 rfl
    refine ⟨?_, ?_, j1, j2⟩
    · unfold tellsC
      rw [hmay _ (by unfold leastV placesE; simp; try omega) (by unfold bareE; simp)]
      simp
      try omega
    · dsimp only
      omega
  · rw [if_neg (by decide), if_neg (by decide), if_neg (by decide), if_neg (by decide), if_pos (by decide)] at h
    obtain ⟨⟨nb, rb⟩, hB⟩ : ∃ x, numR ⟨s, at_ + (putN n).length, 0⟩ ((maxClockN - c.clock).toNat) = x := ⟨_, rfl⟩
    rw [hB] at h
    dsimp only at h
    have hnb : nb ≠ 0 := by
      intro h0
      rw [if_pos h0] at h
      obtain ⟨-, rfl⟩ := Prod.mk.inj h
      unfold failR at he
      split at he
      · rename_i hne; exact hne he
      · simp at he
    rw [if_neg hnb] at h
    obtain ⟨rfl, rfl⟩ := Prod.mk.inj h
    obtain ⟨rfl, g2, g3, g4⟩ := one_back hs hB he
    obtain ⟨j1, j2⟩ := join_back (T := T) (c := c) (e := ⟨5, th, 0, 0, c.clock + nb, 0, 0⟩) (n := n) (q := [nb]) q3 (by unfold numsC; dsimp only; rw [if_neg (by decide), if_neg (by decide), if_neg (by decide), if_neg (by decide), if_pos (by decide), show (c.clock + (nb : Int) - c.clock).toNat = nb by omega]) p2 g2 rfl
    unfold maxClockN at g3
    refine ⟨?_, ?_, j1, j2⟩
    · unfold tellsC
      rw [hmay _ (by unfold leastV placesE; simp; try omega) (by unfold bareE; simp)]
      simp
      try omega
    · dsimp only
      omega
  · rw [if_neg (by decide), if_neg (by decide), if_neg (by decide), if_pos (by decide)] at h
    obtain ⟨⟨nb, rb⟩, hB⟩ : ∃ x, numR ⟨s, at_ + (putN n).length, 0⟩ ((S - 1).toNat) = x := ⟨_, rfl⟩
    rw [hB] at h
    dsimp only at h
    obtain ⟨rfl, rfl⟩ := Prod.mk.inj h
    obtain ⟨rfl, g2, g3, g4⟩ := one_back hs hB he
    obtain ⟨j1, j2⟩ := join_back (T := T) (c := c) (e := ⟨6, th, 0, nb, 0, 0, 0⟩) (n := n) (q := [nb]) q3 (by unfold numsC; dsimp only; rw [if_neg (by decide), if_neg (by decide), if_neg (by decide), if_pos (by decide), Int.toNat_natCast]) p2 g2 rfl
    refine ⟨?_, ?_, j1, j2⟩
    · unfold tellsC
      rw [hmay _ (by unfold leastV placesE; simp; try omega) (by unfold bareE; simp)]
      simp
      try omega
    · dsimp only
      omega
  · rw [if_neg (by decide), if_neg (by decide), if_neg (by decide), if_neg (by decide), if_neg (by decide), if_pos (by decide)] at h
    obtain ⟨⟨nb, rb⟩, hB⟩ : ∃ x, numR ⟨s, at_ + (putN n).length, 0⟩ 1 = x := ⟨_, rfl⟩
    rw [hB] at h
    dsimp only at h
    by_cases h0 : nb = 0
    · rw [if_pos h0] at h
      obtain ⟨rfl, rfl⟩ := Prod.mk.inj h
      obtain ⟨rfl, g2, g3, g4⟩ := one_back hs hB he
      obtain ⟨j1, j2⟩ := join_back (T := T) (c := c) (e := ⟨7, th, 0, 0, 0, 0, 0⟩) (n := n) (q := [nb]) q3 (by unfold numsC; dsimp only; rw [if_neg (by decide), if_neg (by decide), if_neg (by decide), if_neg (by decide), if_neg (by decide), if_pos (by decide), if_pos rfl, h0]) p2 g2 rfl
      refine ⟨?_, ?_, j1, j2⟩
      · unfold tellsC
        rw [hmay _ (by unfold leastV placesE; simp; try omega) (by unfold bareE; simp)]
        simp
      · dsimp only
        omega
    · rw [if_neg h0] at h
      have hbz : c.bumped th ≠ 0 := by
        intro hz
        rw [if_pos hz] at h
        obtain ⟨-, rfl⟩ := Prod.mk.inj h
        unfold failR at he
        split at he
        · rename_i hne; exact hne he
        · simp at he
      rw [if_neg hbz] at h
      obtain ⟨rfl, rfl⟩ := Prod.mk.inj h
      obtain ⟨rfl, g2, g3, g4⟩ := one_back hs hB he
      obtain ⟨j1, j2⟩ := join_back (T := T) (c := c) (e := ⟨7, th, 0, 0, c.bumped th, 0, 0⟩) (n := n) (q := [nb]) q3 (by unfold numsC; dsimp only; rw [if_neg (by decide), if_neg (by decide), if_neg (by decide), if_neg (by decide), if_neg (by decide), if_pos (by decide), if_neg hbz, show nb = 1 by omega]) p2 g2 rfl
      refine ⟨?_, ?_, j1, j2⟩
      · unfold tellsC
        rw [hmay _ (by unfold leastV placesE; simp; try omega) (by unfold bareE; simp)]
        simp
      · dsimp only
        omega
  · rw [if_neg (by decide), if_neg (by decide), if_pos (by decide)] at h
    obtain ⟨⟨nb, rb⟩, hB⟩ : ∃ x, numR ⟨s, at_ + (putN n).length, 0⟩ ((V - 1).toNat) = x := ⟨_, rfl⟩
    rw [hB] at h
    dsimp only at h
    obtain ⟨⟨nd, rd⟩, hD⟩ : ∃ x, numR rb (maxU) = x := ⟨_, rfl⟩
    rw [hD] at h
    dsimp only at h
    obtain ⟨rfl, rfl⟩ := Prod.mk.inj h
    obtain ⟨rfl, g2, g3, g4, g5, g6⟩ := two_back hs hB hD he
    have hz := zag_ok nd g6
    have hx := hxs nb
    obtain ⟨j1, j2⟩ := join_back (T := T) (c := c) (e := ⟨8, th, 0, nb, 0, w64 (c.x nb + zagZ nd), 0⟩) (n := n) (q := [nb, nd]) q3 (by unfold numsC; dsimp only; rw [if_neg (by decide), if_neg (by decide), if_pos (by decide), Int.toNat_natCast, w64_diff _ _ hz, zig_zag]) p2 g2 rfl
    refine ⟨?_, ?_, j1, j2⟩
    · unfold tellsC
      rw [hmay _ (by unfold leastV placesE; simp; try omega) (by unfold bareE; simp)]
      simp
      try omega
    · dsimp only
      exact w64_ok _
  · rw [if_neg (by decide), if_neg (by decide), if_neg (by decide), if_pos (by decide)] at h
    obtain ⟨⟨nb, rb⟩, hB⟩ : ∃ x, numR ⟨s, at_ + (putN n).length, 0⟩ ((S - 1).toNat) = x := ⟨_, rfl⟩
    rw [hB] at h
    dsimp only at h
    obtain ⟨rfl, rfl⟩ := Prod.mk.inj h
    obtain ⟨rfl, g2, g3, g4⟩ := one_back hs hB he
    obtain ⟨j1, j2⟩ := join_back (T := T) (c := c) (e := ⟨9, th, 0, nb, 0, 0, 0⟩) (n := n) (q := [nb]) q3 (by unfold numsC; dsimp only; rw [if_neg (by decide), if_neg (by decide), if_neg (by decide), if_pos (by decide), Int.toNat_natCast]) p2 g2 rfl
    refine ⟨?_, ?_, j1, j2⟩
    · unfold tellsC
      rw [hmay _ (by unfold leastV placesE; simp; try omega) (by unfold bareE; simp)]
      simp
      try omega
    · dsimp only
      omega
  · rw [if_neg (by decide), if_neg (by decide), if_neg (by decide), if_neg (by decide), if_neg (by decide), if_neg (by decide), if_pos (by decide)] at h
    obtain ⟨⟨nb, rb⟩, hB⟩ : ∃ x, numR ⟨s, at_ + (putN n).length, 0⟩ 5 = x := ⟨_, rfl⟩
    rw [hB] at h
    dsimp only at h
    by_cases h00 : nb + 1 = 6
    · rw [if_pos h00] at h
      have h0 : (nb : Int) + 1 = 6 := by omega
      obtain ⟨rfl, rfl⟩ := Prod.mk.inj h
      obtain ⟨rfl, g2, g3, g4⟩ := one_back hs hB he
      obtain ⟨j1, j2⟩ := join_back (T := T) (c := c) (e := ⟨10, th, 0, 0, 0, 0, (nb : Int) + 1⟩) (n := n) (q := [nb]) q3 (by unfold numsC; dsimp only; rw [if_neg (by decide), if_neg (by decide), if_neg (by decide), if_neg (by decide), if_neg (by decide), if_neg (by decide), if_pos (by decide), if_pos h0, show ((nb : Int) + 1 - 1).toNat = nb by omega]) p2 g2 rfl
      refine ⟨?_, ?_, j1, j2⟩
      · unfold tellsC
        rw [hmay _ (by unfold leastV placesE; simp [h0]; try omega) (by unfold bareE; simp)]
        simp
      · dsimp only
        omega
    · rw [if_neg h00] at h
      have h0 : ¬ (nb : Int) + 1 = 6 := by omega
      obtain ⟨⟨nd, rd⟩, hD⟩ : ∃ x, numR rb (S - 1).toNat = x := ⟨_, rfl⟩
      rw [hD] at h
      dsimp only at h
      obtain ⟨rfl, rfl⟩ := Prod.mk.inj h
      obtain ⟨rfl, g2, g3, g4, g5, g6⟩ := two_back hs hB hD he
      obtain ⟨j1, j2⟩ := join_back (T := T) (c := c) (e := ⟨10, th, 0, nd, 0, 0, (nb : Int) + 1⟩) (n := n) (q := [nb, nd]) q3 (by unfold numsC; dsimp only; rw [if_neg (by decide), if_neg (by decide), if_neg (by decide), if_neg (by decide), if_neg (by decide), if_neg (by decide), if_pos (by decide), if_neg h0, show ((nb : Int) + 1 - 1).toNat = nb by omega, Int.toNat_natCast]) p2 g2 rfl
      refine ⟨?_, ?_, j1, j2⟩
      · unfold tellsC
        rw [hmay _ (by unfold leastV placesE; simp [h0]; try omega) (by unfold bareE; simp)]
        simp
      · dsimp only
        omega
  · rw [if_neg (by decide), if_neg (by decide), if_neg (by decide), if_pos (by decide)] at h
    obtain ⟨⟨nb, rb⟩, hB⟩ : ∃ x, numR ⟨s, at_ + (putN n).length, 0⟩ ((S - 1).toNat) = x := ⟨_, rfl⟩
    rw [hB] at h
    dsimp only at h
    obtain ⟨rfl, rfl⟩ := Prod.mk.inj h
    obtain ⟨rfl, g2, g3, g4⟩ := one_back hs hB he
    obtain ⟨j1, j2⟩ := join_back (T := T) (c := c) (e := ⟨11, th, 0, nb, 0, 0, 0⟩) (n := n) (q := [nb]) q3 (by unfold numsC; dsimp only; rw [if_neg (by decide), if_neg (by decide), if_neg (by decide), if_pos (by decide), Int.toNat_natCast]) p2 g2 rfl
    refine ⟨?_, ?_, j1, j2⟩
    · unfold tellsC
      rw [hmay _ (by unfold leastV placesE; simp; try omega) (by unfold bareE; simp)]
      simp
      try omega
    · dsimp only
      omega
  · rw [if_neg (by decide), if_neg (by decide), if_neg (by decide), if_neg (by decide), if_neg (by decide), if_neg (by decide), if_neg (by decide)] at h
    obtain ⟨rfl, rfl⟩ := Prod.mk.inj h
    have g2 : (s.drop (at_ + (putN n).length)).take (([] : List Nat).flatMap putN).length = ([] : List Nat).flatMap putN := by simp
    obtain ⟨j1, j2⟩ := join_back (T := T) (c := c) (e := ⟨12, th, 0, 0, 0, 0, 0⟩) (n := n) (q := []) q3 (by unfold numsC; dsimp only; rw [if_neg (by decide), if_neg (by decide), if_neg (by decide), if_neg (by decide), if_neg (by decide), if_neg (by decide), if_neg (by decide)]) p2 g2 rfl
    refine ⟨?_, ?_, j1, j2⟩
    · unfold tellsC
      rw [hmay _ (by unfold leastV placesE; simp; try omega) (by unfold bareE; simp)]
      simp
      try omega
    · dsimp only
      omega
  · rw [if_neg (by decide), if_neg (by decide), if_neg (by decide), if_neg (by decide), if_neg (by decide), if_neg (by decide), if_neg (by decide)] at h
    obtain ⟨rfl, rfl⟩ := Prod.mk.inj h
    have g2 : (s.drop (at_ + (putN n).length)).take (([] : List Nat).flatMap putN).length = ([] : List Nat).flatMap putN := by simp
    obtain ⟨j1, j2⟩ := join_back (T := T) (c := c) (e := ⟨13, th, 0, 0, 0, 0, 0⟩) (n := n) (q := []) q3 (by unfold numsC; dsimp only; rw [if_neg (by decide), if_neg (by decide), if_neg (by decide), if_neg (by decide), if_neg (by decide), if_neg (by decide), if_neg (by decide)]) p2 g2 rfl
    refine ⟨?_, ?_, j1, j2⟩
    · unfold tellsC
      rw [hmay _ (by unfold leastV placesE; simp; try omega) (by unfold bareE; simp)]
      simp
      try omega
    · dsimp only
      omega
end Go.Proofs.YtokkafiphchejaaDoor
/-
  Events as bytes, one behind the other. Nothing of the program.
-/
namespace Go.Proofs.YtokkafiphchejaaDoor
set_option linter.unusedVariables false
def cAll (c : Cdr) (l : List Ev) : Cdr := l.foldl knowsC c
def bytesAll (T : Int) (c : Cdr) : List Ev → List Nat
  | [] => []
  | e :: r => bytesC T c e ++ bytesAll T (knowsC c e) r
def ToldOk (T V S : Int) (c : Cdr) : List Ev → Prop
  | [] => True
  | e :: r => (tellsC T V S c e = true ∧ -9223372036854775808 ≤ e.x ∧ e.x ≤ 9223372036854775807) ∧ ToldOk T V S (knowsC c e) r
theorem cAll_app (c : Cdr) (l m : List Ev) : cAll c (l ++ m) = cAll (cAll c l) m := List.foldl_append ..
theorem bytesAll_app (T : Int) : ∀ (l m : List Ev) (c : Cdr), bytesAll T c (l ++ m) = bytesAll T c l ++ bytesAll T (cAll c l) m
  | [], m, c => rfl
  | e :: l, m, c => by
    rw [List.cons_append, bytesAll, bytesAll_app T l m (knowsC c e), bytesAll, List.append_assoc]
    rfl
theorem told_app (T V S : Int) : ∀ (l m : List Ev) (c : Cdr), ToldOk T V S c (l ++ m) ↔ ToldOk T V S c l ∧ ToldOk T V S (cAll c l) m
  | [], m, c => by simp [ToldOk, cAll]
  | e :: l, m, c => by
    rw [List.cons_append, ToldOk, ToldOk, told_app T V S l m (knowsC c e)]
    exact ⟨fun h => ⟨⟨h.1, h.2.1⟩, h.2.2⟩, fun h => ⟨h.1.1, h.1.2, h.2⟩⟩
theorem told_ok {T V S : Int} : ∀ (l : List Ev) {c : Cdr}, OkC T c → ToldOk T V S c l → OkC T (cAll c l)
  | [], c, h, _ => h
  | e :: l, c, h, hl => told_ok l (okC_knows h hl.1.1 hl.1.2) hl.2
/-- One event more is told. -/
theorem told_snoc {T V S : Int} {c : Cdr} {l : List Ev} {e : Ev} (h : ToldOk T V S c l) (ht : tellsC T V S (cAll c l) e = true) (hx : -9223372036854775808 ≤ e.x ∧ e.x ≤ 9223372036854775807) :
    ToldOk T V S c (l ++ [e]) ∧ bytesAll T c (l ++ [e]) = bytesAll T c l ++ bytesC T (cAll c l) e ∧ cAll c (l ++ [e]) = knowsC (cAll c l) e := by
  refine ⟨(told_app T V S l [e] c).2 ⟨h, ⟨ht, hx⟩, trivial⟩, ?_, cAll_app c l [e]⟩
  rw [bytesAll_app, bytesAll, bytesAll, List.append_nil]
/-- The bytes of all that was told are few. -/
theorem bytesAll_len {T V S : Int} : ∀ (l : List Ev) {c : Cdr}, OkC T c → ToldOk T V S c l → (bytesAll T c l).length ≤ 12 * l.length
  | [], c, _, _ => by simp [bytesAll]
  | e :: l, c, h, hl => by
    have h1 := bytes_len h hl.1.1
    have h2 := bytesAll_len l (okC_knows h hl.1.1 hl.1.2) hl.2
    rw [bytesAll, List.length_append, List.length_cons]
    omega
/-- Reading goes event by event. -/
theorem read_at {T V S : Int} {c : Cdr} {a b : List Ev} {e : Ev} (hc : OkC T c) (h : ToldOk T V S c (a ++ e :: b)) :
    readC T V S (cAll c a) ⟨bytesAll T c (a ++ e :: b), (bytesAll T c a).length, 0⟩ = (e, 0, ⟨bytesAll T c (a ++ e :: b), (bytesAll T c (a ++ [e])).length, 0⟩, cAll c (a ++ [e])) := by
  obtain ⟨h1, h2⟩ := (told_app T V S a (e :: b) c).1 h
  have h3 := read_bytes (pre := bytesAll T c a) (rest := bytesAll T (knowsC (cAll c a) e) b) (told_ok a hc h1) h2.1.1 h2.1.2
  have h4 : bytesAll T c (a ++ e :: b) = bytesAll T c a ++ (bytesC T (cAll c a) e ++ bytesAll T (knowsC (cAll c a) e) b) := by rw [bytesAll_app, bytesAll]
  rw [h4, h3, (told_snoc h1 h2.1.1 h2.1.2).2.1, (told_snoc h1 h2.1.1 h2.1.2).2.2]
/-- A load of what is known there, of the last thread, has three bytes; a Free two. -/
theorem small_load {c : Cdr} {t a x : Int} (hl : c.last = t) (ht : 0 ≤ t ∧ t < 6) (ha : 0 ≤ a ∧ a < 32) (hx : c.x a = x) : (bytesC 6 c ⟨3, t, 0, a, 0, x, 0⟩).length = 3 := by
  have h1 : firstC 6 c ⟨3, t, 0, a, 0, x, 0⟩ = 12 := by unfold firstC; dsimp only; rw [hl]; omega
  have h2 : numsC c ⟨3, t, 0, a, 0, x, 0⟩ = [a.toNat, zigZ (w64 (x - c.x a))] := rfl
  unfold bytesC
  rw [h1, h2, hx, show w64 (x - x) = 0 by unfold w64; omega]
  simp only [List.flatMap_cons, List.flatMap_nil, List.append_nil, List.length_append]
  rw [putN_one _ (by decide), putN_one _ (by omega), putN_one _ (by decide)]
theorem small_free {c : Cdr} {t a : Int} (hl : c.last = t) (ht : 0 ≤ t ∧ t < 6) (ha : 0 ≤ a ∧ a < 32) : (bytesC 6 c ⟨9, t, 0, a, 0, 0, 0⟩).length = 2 := by
  have h1 : firstC 6 c ⟨9, t, 0, a, 0, 0, 0⟩ = 48 := by unfold firstC; dsimp only; rw [hl]; omega
  have h2 : numsC c ⟨9, t, 0, a, 0, 0, 0⟩ = [a.toNat] := rfl
  unfold bytesC
  rw [h1, h2]
  simp only [List.flatMap_cons, List.flatMap_nil, List.append_nil, List.length_append]
  rw [putN_one _ (by decide), putN_one _ (by omega)]
end Go.Proofs.YtokkafiphchejaaDoor
/-
  One line gone over, whatever its numbers are handed to; with the writer's it is written, with the reader's read. Nothing of the program.
-/
namespace Go.Proofs.YtokkafiphchejaaDoor
set_option linter.unusedVariables false
set_option linter.unusedSimpArgs false
/-- What an event's numbers are handed to. -/
structure Cl (σ : Type) where
  num : σ → Int → Int → Int × σ
  int : σ → Int → Int × σ
  bad : σ → σ
def lineK {σ : Type} (K : Cl σ) (V S : Int) (c : Cdr) (e : Ev) (s : σ) : Ev × σ :=
  if e.kind = 1 then
    let a := K.num s e.tx 5; let b := K.num a.2 (e.v - c.clock) (maxClockN - c.clock); ({ e with tx := a.1, v := c.clock + b.1 }, b.2)
  else if e.kind = 2 then
    let a := K.num s e.at_ (S - 1); let b := K.num a.2 (c.begun e.th - e.v) (c.begun e.th); ({ e with at_ := a.1, v := c.begun e.th - b.1 }, b.2)
  else if e.kind = 3 ∨ e.kind = 8 then
    let a := K.num s e.at_ (V - 1); let b := K.int a.2 (w64 (e.x - c.x a.1)); ({ e with at_ := a.1, x := w64 (c.x a.1 + b.1) }, b.2)
  else if e.kind = 4 ∨ e.kind = 6 ∨ e.kind = 9 ∨ e.kind = 11 then
    let a := K.num s e.at_ (S - 1); ({ e with at_ := a.1 }, a.2)
  else if e.kind = 5 then
    let a := K.num s (e.v - c.clock) (maxClockN - c.clock); ({ e with v := c.clock + a.1 }, if a.1 = 0 then K.bad a.2 else a.2)
  else if e.kind = 7 then
    let a := K.num s (min e.v 1) 1; if a.1 = 0 then ({ e with v := 0 }, a.2) else ({ e with v := c.bumped e.th }, if c.bumped e.th = 0 then K.bad a.2 else a.2)
  else if e.kind = 10 then
    let a := K.num s (e.why - 1) 5; if a.1 + 1 = 6 then ({ e with why := a.1 + 1 }, a.2) else let b := K.num a.2 e.at_ (S - 1); ({ e with why := a.1 + 1, at_ := b.1 }, b.2)
  else (e, s)
def lineG {σ : Type} (K : Cl σ) (T V S : Int) (c : Cdr) (e : Ev) (s : σ) : Ev × σ :=
  let a := K.num s ((e.kind - 1) * T + (e.th - c.last + T) % T) (13 * T - 1)
  lineK K V S c { e with kind := a.1 / T + 1, th := (a.1 % T + c.last) % T } a.2
/-- The writer's. -/
def wCl : Cl (List Nat) := ⟨fun s n _ => (n, s ++ putN n.toNat), fun s x => (x, s ++ putN (zigZ x)), fun s => s⟩
/-- The reader's, with the last number's place. -/
def rCl : Cl (Rdr × Nat) := ⟨fun s _ m => ((numR s.1 m.toNat).1, ((numR s.1 m.toNat).2, s.1.at_)), fun s _ => (zagZ (numR s.1 maxU).1, ((numR s.1 maxU).2, s.2)), fun s => (failR s.1 s.2, s.2)⟩
theorem line_write {T V S : Int} {c : Cdr} {e : Ev} {s : List Nat} (hc : OkC T c) (ht : tellsC T V S c e = true) (hx : -9223372036854775808 ≤ e.x ∧ e.x ≤ 9223372036854775807) : lineG wCl T V S c e s = (e, s ++ bytesC T c e) := by
  unfold tellsC at ht
  rw [Bool.and_eq_true] at ht
  obtain ⟨hm, hk2⟩ := ht
  obtain ⟨hs, ⟨k1, k2, hw, t1, t2, x1, x2, v1, v2, a1, a2⟩, hb⟩ := may_sizes' hm
  obtain ⟨f1, f2, f3, f4⟩ := first_ok (T := T) (k := e.kind) (th := e.th) (last := c.last) ⟨by omega, by omega⟩ ⟨k1, k2⟩ ⟨t1, t2⟩ hc.last
  unfold lineG
  dsimp only [wCl]
  rw [f3, f4]
  have hb0 : bytesC T c e = putN ((e.kind - 1) * T + (e.th - c.last + T) % T).toNat ++ (numsC c e).flatMap putN := by unfold bytesC firstC; rw [List.flatMap_cons]
  rw [hb0, ← List.append_assoc]
  generalize s ++ putN ((e.kind - 1) * T + (e.th - c.last + T) % T).toNat = q
  have hl : 0 ≤ leastV e := by unfold leastV; split <;> omega
  obtain ⟨kind, th, tx, at_, v, x, why⟩ := e
  dsimp only at *
  have hback := w64_back x (c.x at_) hx
  have hc13 : kind = 1 ∨ kind = 2 ∨ kind = 3 ∨ kind = 4 ∨ kind = 5 ∨ kind = 6 ∨ kind = 7 ∨ kind = 8 ∨ kind = 9 ∨ kind = 10 ∨ kind = 11 ∨ kind = 12 ∨ kind = 13 := by omega
  clear f1 f2 f3 f4 hm hb0
  rcases hc13 with rfl | rfl | rfl | rfl | rfl | rfl | rfl | rfl | rfl | rfl | rfl | rfl | rfl
  · unfold bareE at hb
    simp at hb hk2
    rw [show numsC c ⟨1, th, tx, at_, v, x, why⟩ = [tx.toNat, (v - c.clock).toNat] from rfl]
    unfold lineK
    dsimp only
    rw [if_pos (by decide)]
    simp only [List.flatMap_cons, List.flatMap_nil, List.append_nil, ← List.append_assoc]
    all_goals refine Prod.ext (Ev.ext' rfl rfl ?_ ?_ ?_ ?_ ?_) rfl
    all_goals (first | rfl | exact hback | omega | (dsimp only; omega))
  · unfold bareE at hb
    simp at hb hk2
    rw [show numsC c ⟨2, th, tx, at_, v, x, why⟩ = [at_.toNat, (c.begun th - v).toNat] from rfl]
    unfold lineK
    dsimp only
    rw [if_neg (by decide), if_pos (by decide)]
    simp only [List.flatMap_cons, List.flatMap_nil, List.append_nil, ← List.append_assoc]
    all_goals refine Prod.ext (Ev.ext' rfl rfl ?_ ?_ ?_ ?_ ?_) rfl
    all_goals (first | rfl | exact hback | omega | (dsimp only; omega))
  · unfold bareE at hb
    simp at hb hk2
    rw [show numsC c ⟨3, th, tx, at_, v, x, why⟩ = [at_.toNat, zigZ (w64 (x - c.x at_))] from rfl]
    unfold lineK
    dsimp only
    rw [if_neg (by decide), if_neg (by decide), if_pos (by decide)]
    simp only [List.flatMap_cons, List.flatMap_nil, List.append_nil, ← List.append_assoc]
    all_goals refine Prod.ext (Ev.ext' rfl rfl ?_ ?_ ?_ ?_ ?_) rfl
    all_goals (first | rfl | exact hback | omega | (dsimp only; omega))
  · unfold bareE at hb
    simp at hb hk2
    rw [show numsC c ⟨4, th, tx, at_, v, x, why⟩ = [at_.toNat] from rfl]
    unfold lineK
    dsimp only
    rw [if_neg (by decide), if_neg (by decide), if_neg (by decide), if_pos (by decide)]
    simp only [List.flatMap_cons, List.flatMap_nil, List.append_nil, ← List.append_assoc]
    all_goals refine Prod.ext (Ev.ext' rfl rfl ?_ ?_ ?_ ?_ ?_) rfl
    all_goals (first | rfl | exact hback | omega | (dsimp only; omega))
  · unfold bareE at hb
    simp at hb hk2
    rw [show numsC c ⟨5, th, tx, at_, v, x, why⟩ = [(v - c.clock).toNat] from rfl]
    unfold lineK
    dsimp only
    rw [if_neg (by decide), if_neg (by decide), if_neg (by decide), if_neg (by decide), if_pos (by decide)]
    rw [if_neg (by omega)]
    simp only [List.flatMap_cons, List.flatMap_nil, List.append_nil, ← List.append_assoc]
    all_goals refine Prod.ext (Ev.ext' rfl rfl ?_ ?_ ?_ ?_ ?_) rfl
    all_goals (first | rfl | omega | (dsimp only; omega))
  · unfold bareE at hb
    simp at hb hk2
    rw [show numsC c ⟨6, th, tx, at_, v, x, why⟩ = [at_.toNat] from rfl]
    unfold lineK
    dsimp only
    rw [if_neg (by decide), if_neg (by decide), if_neg (by decide), if_pos (by decide)]
    simp only [List.flatMap_cons, List.flatMap_nil, List.append_nil, ← List.append_assoc]
    all_goals refine Prod.ext (Ev.ext' rfl rfl ?_ ?_ ?_ ?_ ?_) rfl
    all_goals (first | rfl | exact hback | omega | (dsimp only; omega))
  · unfold bareE at hb
    simp at hb hk2
    rw [show numsC c ⟨7, th, tx, at_, v, x, why⟩ = [if v = 0 then 0 else 1] from rfl]
    unfold lineK
    dsimp only
    rw [if_neg (by decide), if_neg (by decide), if_neg (by decide), if_neg (by decide), if_neg (by decide), if_pos (by decide)]
    by_cases hv : v = 0
    · subst hv
      rw [if_pos rfl, show min (0 : Int) 1 = 0 by decide]
      rw [if_pos rfl]
      simp only [List.flatMap_cons, List.flatMap_nil, List.append_nil, ← List.append_assoc]
      all_goals refine Prod.ext (Ev.ext' rfl rfl ?_ ?_ ?_ ?_ ?_) rfl
      all_goals (first | rfl | omega | (dsimp only; omega))
    · rw [if_neg hv, show min v 1 = 1 by unfold leastV at *; simp at *; omega]
      rw [if_neg (by decide), if_neg (by omega)]
      simp only [List.flatMap_cons, List.flatMap_nil, List.append_nil, ← List.append_assoc]
      all_goals refine Prod.ext (Ev.ext' rfl rfl ?_ ?_ ?_ ?_ ?_) rfl
      all_goals (first | rfl | omega | (dsimp only; omega))
  · unfold bareE at hb
    simp at hb hk2
    rw [show numsC c ⟨8, th, tx, at_, v, x, why⟩ = [at_.toNat, zigZ (w64 (x - c.x at_))] from rfl]
    unfold lineK
    dsimp only
    rw [if_neg (by decide), if_neg (by decide), if_pos (by decide)]
    simp only [List.flatMap_cons, List.flatMap_nil, List.append_nil, ← List.append_assoc]
    all_goals refine Prod.ext (Ev.ext' rfl rfl ?_ ?_ ?_ ?_ ?_) rfl
    all_goals (first | rfl | exact hback | omega | (dsimp only; omega))
  · unfold bareE at hb
    simp at hb hk2
    rw [show numsC c ⟨9, th, tx, at_, v, x, why⟩ = [at_.toNat] from rfl]
    unfold lineK
    dsimp only
    rw [if_neg (by decide), if_neg (by decide), if_neg (by decide), if_pos (by decide)]
    simp only [List.flatMap_cons, List.flatMap_nil, List.append_nil, ← List.append_assoc]
    all_goals refine Prod.ext (Ev.ext' rfl rfl ?_ ?_ ?_ ?_ ?_) rfl
    all_goals (first | rfl | exact hback | omega | (dsimp only; omega))
  · unfold bareE at hb
    simp at hb hk2
    rw [show numsC c ⟨10, th, tx, at_, v, x, why⟩ = (why - 1).toNat :: (if why = 6 then [] else [at_.toNat]) from rfl]
    unfold lineK
    dsimp only
    rw [if_neg (by decide), if_neg (by decide), if_neg (by decide), if_neg (by decide), if_neg (by decide), if_neg (by decide), if_pos (by decide)]
    by_cases hv : why = 6
    · rw [if_pos hv, if_pos (by omega)]
      simp only [List.flatMap_cons, List.flatMap_nil, List.append_nil, ← List.append_assoc]
      all_goals refine Prod.ext (Ev.ext' rfl rfl ?_ ?_ ?_ ?_ ?_) rfl
      all_goals (first | rfl | omega | (dsimp only; omega))
    · rw [if_neg hv, if_neg (by omega)]
      simp only [List.flatMap_cons, List.flatMap_nil, List.append_nil, ← List.append_assoc]
      all_goals refine Prod.ext (Ev.ext' rfl rfl ?_ ?_ ?_ ?_ ?_) rfl
      all_goals (first | rfl | omega | (dsimp only; omega))
  · unfold bareE at hb
    simp at hb hk2
    rw [show numsC c ⟨11, th, tx, at_, v, x, why⟩ = [at_.toNat] from rfl]
    unfold lineK
    dsimp only
    rw [if_neg (by decide), if_neg (by decide), if_neg (by decide), if_pos (by decide)]
    simp only [List.flatMap_cons, List.flatMap_nil, List.append_nil, ← List.append_assoc]
    all_goals refine Prod.ext (Ev.ext' rfl rfl ?_ ?_ ?_ ?_ ?_) rfl
    all_goals (first | rfl | exact hback | omega | (dsimp only; omega))
  · unfold bareE at hb
    simp at hb hk2
    rw [show numsC c ⟨12, th, tx, at_, v, x, why⟩ = [] from rfl]
    unfold lineK
    dsimp only
    rw [if_neg (by decide), if_neg (by decide), if_neg (by decide), if_neg (by decide), if_neg (by decide), if_neg (by decide), if_neg (by decide)]
    simp
  · unfold bareE at hb
    simp at hb hk2
    rw [show numsC c ⟨13, th, tx, at_, v, x, why⟩ = [] from rfl]
    unfold lineK
    dsimp only
    rw [if_neg (by decide), if_neg (by decide), if_neg (by decide), if_neg (by decide), if_neg (by decide), if_neg (by decide), if_neg (by decide)]
    simp
theorem line_read {T V S : Int} {c : Cdr} {r : Rdr} {p : Nat} : (lineG rCl T V S c ⟨12, 0, 0, 0, 0, 0, 0⟩ (r, p)).1 = (lineR T V S c r).1 ∧ (lineG rCl T V S c ⟨12, 0, 0, 0, 0, 0, 0⟩ (r, p)).2.1 = (lineR T V S c r).2 := by
  unfold lineG lineR lineK
  dsimp only [rCl]
  generalize numR r (13 * T - 1).toNat = a
  obtain ⟨n, ra⟩ := a
  dsimp only
  generalize (n : Int) / T + 1 = k
  generalize ((n : Int) % T + c.last) % T = th
  by_cases h1 : k = 1
  · rw [if_pos h1, if_pos h1]; exact ⟨rfl, rfl⟩
  rw [if_neg h1, if_neg h1]
  by_cases h2 : k = 2
  · rw [if_pos h2, if_pos h2]; exact ⟨rfl, rfl⟩
  rw [if_neg h2, if_neg h2]
  by_cases h3 : k = 3 ∨ k = 8
  · rw [if_pos h3, if_pos h3]; exact ⟨rfl, rfl⟩
  rw [if_neg h3, if_neg h3]
  by_cases h4 : k = 4 ∨ k = 6 ∨ k = 9 ∨ k = 11
  · rw [if_pos h4, if_pos h4]; exact ⟨rfl, rfl⟩
  rw [if_neg h4, if_neg h4]
  by_cases h5 : k = 5
  · rw [if_pos h5, if_pos h5]
    refine ⟨rfl, ?_⟩
    dsimp only
    by_cases hz : (numR ra (maxClockN - c.clock).toNat).1 = 0
    · rw [if_pos (by rw [hz]; rfl), if_pos hz]
    · rw [if_neg (by omega), if_neg hz]
  rw [if_neg h5, if_neg h5]
  by_cases h7 : k = 7
  · rw [if_pos h7, if_pos h7]
    rw [show (1 : Int).toNat = 1 from rfl]
    by_cases hz : (numR ra 1).1 = 0
    · rw [if_pos (by rw [hz]; rfl), if_pos hz]; exact ⟨rfl, rfl⟩
    · rw [if_neg (by omega), if_neg hz]
      refine ⟨rfl, ?_⟩
      dsimp only
      split <;> rfl
  rw [if_neg h7, if_neg h7]
  by_cases h10 : k = 10
  · rw [if_pos h10, if_pos h10]
    rw [show (5 : Int).toNat = 5 from rfl]
    by_cases hz : (numR ra 5).1 + 1 = 6
    · rw [if_pos (by omega), if_pos hz]; exact ⟨rfl, rfl⟩
    · rw [if_neg (by omega), if_neg hz]; exact ⟨rfl, rfl⟩
  rw [if_neg h10, if_neg h10]
  exact ⟨rfl, rfl⟩
end Go.Proofs.YtokkafiphchejaaDoor
