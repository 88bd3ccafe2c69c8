/-
  Events as bytes, plainly: what a coder knows, what it writes, what it reads; and that what is written is read so. Nothing of the program.
-/
import Derived.Test.YtokkafiphchejaaDoorShD
import Derived.Test.YtokkafiphchejaaDoorVar
namespace Go.Proofs.YtokkafiphchejaaDoor
set_option linter.unusedVariables false
/-- What a coder knows. -/
structure Cdr where
  last : Int
  clock : Int
  begun : Int → Int
  bumped : Int → Int
  x : Int → Int
def newC : Cdr := ⟨0, 0, fun _ => 0, fun _ => 0, fun _ => 0⟩
def upd (f : Int → Int) (k v : Int) : Int → Int := fun j => if j = k then v else f j
def knowsC (c : Cdr) (e : Ev) : Cdr :=
  if e.kind = 1 then { c with last := e.th, clock := e.v, begun := upd c.begun e.th e.v }
  else if e.kind = 5 then { c with last := e.th, clock := e.v, bumped := upd c.bumped e.th e.v }
  else if e.kind = 3 ∨ e.kind = 8 then { c with last := e.th, x := upd c.x e.at_ e.x }
  else { c with last := e.th }
def tellsC (T V S : Int) (c : Cdr) (e : Ev) : Bool :=
  mayE e T V S && (if e.kind = 1 then decide (c.clock ≤ e.v) else if e.kind = 2 then decide (e.v ≤ c.begun e.th) else if e.kind = 5 then decide (c.clock < e.v) else if e.kind = 7 then decide (e.v = 0 ∨ e.v = c.bumped e.th) else true)
def w64 (n : Int) : Int := (n + 9223372036854775808) % 18446744073709551616 - 9223372036854775808
def zigZ (x : Int) : Nat := if 0 ≤ x then (2 * x).toNat else (-2 * x - 1).toNat
def zagZ (n : Nat) : Int := if n % 2 = 0 then (n / 2 : Nat) else -((n / 2 : Nat) : Int) - 1
theorem zag_zig (x : Int) : zagZ (zigZ x) = x := by
  unfold zagZ zigZ
  split <;> split <;> omega
theorem zig_zag (n : Nat) : zigZ (zagZ n) = n := by
  unfold zagZ zigZ
  split <;> split <;> omega
theorem zig_lt (x : Int) (h : -9223372036854775808 ≤ x ∧ x ≤ 9223372036854775807) : zigZ x < 18446744073709551616 := by
  unfold zigZ; split <;> omega
theorem zag_ok (n : Nat) (h : n < 18446744073709551616) : -9223372036854775808 ≤ zagZ n ∧ zagZ n ≤ 9223372036854775807 := by
  unfold zagZ; split <;> omega
/-- An event's first number. -/
def firstC (T : Int) (c : Cdr) (e : Ev) : Int := (e.kind - 1) * T + (e.th - c.last + T) % T
/-- The numbers behind it: those that are plain, those that are whole. -/
def numsC (c : Cdr) (e : Ev) : List Nat :=
  if e.kind = 1 then [e.tx.toNat, (e.v - c.clock).toNat] else if e.kind = 2 then [e.at_.toNat, (c.begun e.th - e.v).toNat]
  else if e.kind = 3 ∨ e.kind = 8 then [e.at_.toNat, zigZ (w64 (e.x - c.x e.at_))] else if e.kind = 4 ∨ e.kind = 6 ∨ e.kind = 9 ∨ e.kind = 11 then [e.at_.toNat]
  else if e.kind = 5 then [(e.v - c.clock).toNat] else if e.kind = 7 then [if e.v = 0 then 0 else 1] else if e.kind = 10 then (e.why - 1).toNat :: (if e.why = 6 then [] else [e.at_.toNat]) else []
def bytesC (T : Int) (c : Cdr) (e : Ev) : List Nat := ((firstC T c e).toNat :: numsC c e).flatMap putN
/-- A reader: what is left, its place, what was wrong. -/
structure Rdr where
  s : List Nat
  at_ : Nat
  err : Nat
def numR (r : Rdr) (most : Nat) : Nat × Rdr :=
  if r.err ≠ 0 then (0, r) else match getN (r.s.drop r.at_) with
  | (n, size, e) => if e ≠ 0 then (0, { r with err := e }) else if most < n then (0, { r with err := 20 }) else (n, { r with at_ := r.at_ + size })
def failR (r : Rdr) (place : Nat) : Rdr := if r.err ≠ 0 then r else { r with at_ := place, err := 20 }
def maxU : Nat := 18446744073709551615
def maxClockN : Int := 1099511627776
/-- What is read. -/
def lineR (T V S : Int) (c : Cdr) (r : Rdr) : Ev × Rdr :=
  let a := numR r (13 * T - 1).toNat
  let k := (a.1 : Int) / T + 1
  let th := ((a.1 : Int) % T + c.last) % T
  if k = 1 then let b := numR a.2 5; let d := numR b.2 (maxClockN - c.clock).toNat; (⟨k, th, b.1, 0, c.clock + d.1, 0, 0⟩, d.2)
  else if k = 2 then let b := numR a.2 (S - 1).toNat; let d := numR b.2 (c.begun th).toNat; (⟨k, th, 0, b.1, c.begun th - d.1, 0, 0⟩, d.2)
  else if k = 3 ∨ k = 8 then let b := numR a.2 (V - 1).toNat; let d := numR b.2 maxU; (⟨k, th, 0, b.1, 0, w64 (c.x b.1 + zagZ d.1), 0⟩, d.2)
  else if k = 4 ∨ k = 6 ∨ k = 9 ∨ k = 11 then let b := numR a.2 (S - 1).toNat; (⟨k, th, 0, b.1, 0, 0, 0⟩, b.2)
  else if k = 5 then let b := numR a.2 (maxClockN - c.clock).toNat; (⟨k, th, 0, 0, c.clock + b.1, 0, 0⟩, if b.1 = 0 then failR b.2 a.2.at_ else b.2)
  else if k = 7 then let b := numR a.2 1; if b.1 = 0 then (⟨k, th, 0, 0, 0, 0, 0⟩, b.2) else (⟨k, th, 0, 0, c.bumped th, 0, 0⟩, if c.bumped th = 0 then failR b.2 a.2.at_ else b.2)
  else if k = 10 then let b := numR a.2 5; if b.1 + 1 = 6 then (⟨k, th, 0, 0, 0, 0, b.1 + 1⟩, b.2) else let d := numR b.2 (S - 1).toNat; (⟨k, th, 0, d.1, 0, 0, b.1 + 1⟩, d.2)
  else (⟨k, th, 0, 0, 0, 0, 0⟩, a.2)
/-- Reading: the event, what is told, the reader, what the coder knows then. -/
def readC (T V S : Int) (c : Cdr) (r : Rdr) : Ev × Nat × Rdr × Cdr :=
  let a := lineR T V S c r
  if a.2.err ≠ 0 then (⟨0, 0, 0, 0, 0, 0, 0⟩, a.2.err, a.2, c) else (a.1, 0, a.2, knowsC c a.1)
/-- What holds of what a coder knows. -/
structure OkC (T : Int) (c : Cdr) : Prop where
  last : 0 ≤ c.last ∧ c.last < T
  clock : 0 ≤ c.clock ∧ c.clock ≤ maxClockN
  begun : ∀ t, 0 ≤ c.begun t ∧ c.begun t ≤ maxClockN
  bumped : ∀ t, 0 ≤ c.bumped t ∧ c.bumped t ≤ maxClockN
  xs : ∀ k, -9223372036854775808 ≤ c.x k ∧ c.x k ≤ 9223372036854775807
theorem okC_new {T : Int} (h : 1 ≤ T) : OkC T newC where
  last := ⟨by decide, by show (0 : Int) < T; omega⟩
  clock := ⟨by decide, by decide⟩
  begun _ := ⟨by show (0 : Int) ≤ 0; omega, by show (0 : Int) ≤ 1099511627776; omega⟩
  bumped _ := ⟨by show (0 : Int) ≤ 0; omega, by show (0 : Int) ≤ 1099511627776; omega⟩
  xs _ := ⟨by show (-9223372036854775808 : Int) ≤ 0; omega, by show (0 : Int) ≤ 9223372036854775807; omega⟩
theorem upd_ok {f : Int → Int} {k v a b : Int} (h : ∀ j, a ≤ f j ∧ f j ≤ b) (hv : a ≤ v ∧ v ≤ b) : ∀ j, a ≤ upd f k v j ∧ upd f k v j ≤ b := by
  intro j; unfold upd; split
  · exact hv
  · exact h j
/-- A number that was put is read. -/
theorem num_at {s pre rest : List Nat} {n most : Nat} (hs : s = pre ++ (putN n ++ rest)) (h : n ≤ most) (hn : n < 18446744073709551616) : numR ⟨s, pre.length, 0⟩ most = (n, ⟨s, (pre ++ putN n).length, 0⟩) := by
  subst hs
  unfold numR
  rw [if_neg (by simp)]
  dsimp only
  rw [List.drop_left, get_put n rest hn]
  dsimp only
  rw [if_neg (by simp), if_neg (by omega), List.length_append]
theorem may_sizes' {e : Ev} {T V S : Int} (h : mayE e T V S = true) : (1 ≤ T ∧ T ≤ 6 ∧ 1 ≤ V ∧ V ≤ 32 ∧ 1 ≤ S ∧ S ≤ V) ∧ (1 ≤ e.kind ∧ e.kind ≤ 13 ∧ (e.kind = 10 → 1 ≤ e.why ∧ e.why ≤ 6) ∧ 0 ≤ e.th ∧ e.th < T ∧ 0 ≤ e.tx ∧ e.tx ≤ 5 ∧ leastV e ≤ e.v ∧ e.v ≤ 1099511627776 ∧ 0 ≤ e.at_ ∧ e.at_ < placesE e V S) ∧ e = bareE e := by
  unfold mayE at h
  simp only [Bool.and_eq_true, sizesB, decide_eq_true_eq] at h
  exact ⟨h.1.1, h.1.2, Ev.ext' h.2.1 h.2.2.1 h.2.2.2.1 h.2.2.2.2.1 h.2.2.2.2.2.1 h.2.2.2.2.2.2.1 h.2.2.2.2.2.2.2⟩
theorem first_ok {T k th last : Int} (hT : 1 ≤ T ∧ T ≤ 6) (hk : 1 ≤ k ∧ k ≤ 13) (ht : 0 ≤ th ∧ th < T) (hl : 0 ≤ last ∧ last < T) :
    0 ≤ (k - 1) * T + (th - last + T) % T ∧ (k - 1) * T + (th - last + T) % T ≤ 13 * T - 1 ∧ ((k - 1) * T + (th - last + T) % T) / T + 1 = k ∧ (((k - 1) * T + (th - last + T) % T) % T + last) % T = th := by
  have : T = 1 ∨ T = 2 ∨ T = 3 ∨ T = 4 ∨ T = 5 ∨ T = 6 := by omega
  rcases this with rfl | rfl | rfl | rfl | rfl | rfl <;> omega
theorem w64_back (x y : Int) (hx : -9223372036854775808 ≤ x ∧ x ≤ 9223372036854775807) : w64 (y + w64 (x - y)) = x := by
  unfold w64; omega
theorem w64_ok (x : Int) : -9223372036854775808 ≤ w64 x ∧ w64 x ≤ 9223372036854775807 := by unfold w64; omega
/-- What is written is read so. -/
theorem read_bytes {T V S : Int} {c : Cdr} {e : Ev} {pre rest : List Nat} (hc : OkC T c) (ht : tellsC T V S c e = true) (hx : -9223372036854775808 ≤ e.x ∧ e.x ≤ 9223372036854775807) :
    readC T V S c ⟨pre ++ (bytesC T c e ++ rest), pre.length, 0⟩ = (e, 0, ⟨pre ++ (bytesC T c e ++ rest), (pre ++ bytesC T c e).length, 0⟩, knowsC c e) := by
  have ht0 := ht
  unfold tellsC at ht
  rw [Bool.and_eq_true] at ht
  obtain ⟨hm, hk2⟩ := ht
  obtain ⟨hs, ⟨k1, k2, hw, t1, t2, x1, x2, v1, v2, a1, a2⟩, hb⟩ := may_sizes' hm
  obtain ⟨f1, f2, f3, f4⟩ := first_ok (T := T) (k := e.kind) (th := e.th) (last := c.last) ⟨by omega, by omega⟩ ⟨k1, k2⟩ ⟨t1, t2⟩ hc.last
  have hcl := hc.clock
  have hbg := hc.begun e.th
  have hbu := hc.bumped e.th
  unfold maxClockN at hcl hbg hbu
  suffices hline : lineR T V S c ⟨pre ++ (bytesC T c e ++ rest), pre.length, 0⟩ = (e, ⟨pre ++ (bytesC T c e ++ rest), (pre ++ bytesC T c e).length, 0⟩) by
    unfold readC
    rw [hline]
    simp
  obtain ⟨n, hn⟩ : ∃ n : Nat, firstC T c e = (n : Int) := Int.eq_ofNat_of_zero_le f1
  have hn1 : firstC T c e = (e.kind - 1) * T + (e.th - c.last + T) % T := rfl
  rw [← hn1, hn] at f2 f3 f4
  have hbytes : bytesC T c e = putN n ++ (numsC c e).flatMap putN := by
    unfold bytesC; rw [hn, Int.toNat_natCast, List.flatMap_cons]
  rw [hbytes]
  generalize hs0 : pre ++ (putN n ++ (numsC c e).flatMap putN ++ rest) = s
  have h1 : numR ⟨s, pre.length, 0⟩ (13 * T - 1).toNat = (n, ⟨s, (pre ++ putN n).length, 0⟩) := num_at (rest := (numsC c e).flatMap putN ++ rest) (by rw [← hs0, List.append_assoc]) (by omega) (by omega)
  unfold lineR
  rw [h1]
  dsimp only
  rw [f3, f4]
  unfold leastV placesE at *
  obtain ⟨kind, th, tx, at_, v, x, why⟩ := e
  dsimp only at *
  have hc13 : kind = 1 ∨ kind = 2 ∨ kind = 3 ∨ kind = 4 ∨ kind = 5 ∨ kind = 6 ∨ kind = 7 ∨ kind = 8 ∨ kind = 9 ∨ kind = 10 ∨ kind = 11 ∨ kind = 12 ∨ kind = 13 := by omega
  clear f1 f2 f3 f4 hn hn1 hbytes ht0 hm h1
  rcases hc13 with rfl | rfl | rfl | rfl | rfl | rfl | rfl | rfl | rfl | rfl | rfl | rfl | rfl
  · unfold bareE at hb
    simp at hb hk2 v1 a2
    have hnum : numsC c ⟨1, th, tx, at_, v, x, why⟩ = [tx.toNat, (v - c.clock).toNat] := rfl
    rw [hnum] at hs0 ⊢
    rw [if_pos (by decide)]
    have g0 : numR ⟨s, (pre ++ putN n).length, 0⟩ (5) = (tx.toNat, ⟨s, ((pre ++ putN n) ++ putN (tx.toNat)).length, 0⟩) := num_at (rest := putN ((v - c.clock).toNat) ++ rest) (by rw [← hs0]; simp) (by omega) (by omega)
    rw [g0]
    dsimp only
    have g1 : numR ⟨s, ((pre ++ putN n) ++ putN (tx.toNat)).length, 0⟩ ((maxClockN - c.clock).toNat) = ((v - c.clock).toNat, ⟨s, (((pre ++ putN n) ++ putN (tx.toNat)) ++ putN ((v - c.clock).toNat)).length, 0⟩) := num_at (rest := rest) (by rw [← hs0]; simp) (by unfold maxClockN; omega) (by omega)
    rw [g1]
    dsimp only
    refine Prod.ext (Ev.ext' rfl rfl ?_ ?_ ?_ ?_ ?_) (by simp)
    all_goals (first | rfl | omega | (dsimp only; omega))
  · unfold bareE at hb
    simp at hb hk2 v1 a2
    have hnum : numsC c ⟨2, th, tx, at_, v, x, why⟩ = [at_.toNat, (c.begun th - v).toNat] := rfl
    rw [hnum] at hs0 ⊢
    rw [if_neg (by decide), if_pos (by decide)]
    have g0 : numR ⟨s, (pre ++ putN n).length, 0⟩ ((S - 1).toNat) = (at_.toNat, ⟨s, ((pre ++ putN n) ++ putN (at_.toNat)).length, 0⟩) := num_at (rest := putN ((c.begun th - v).toNat) ++ rest) (by rw [← hs0]; simp) (by omega) (by omega)
    rw [g0]
    dsimp only
    have g1 : numR ⟨s, ((pre ++ putN n) ++ putN (at_.toNat)).length, 0⟩ ((c.begun th).toNat) = ((c.begun th - v).toNat, ⟨s, (((pre ++ putN n) ++ putN (at_.toNat)) ++ putN ((c.begun th - v).toNat)).length, 0⟩) := num_at (rest := rest) (by rw [← hs0]; simp) (by omega) (by omega)
    rw [g1]
    dsimp only
    refine Prod.ext (Ev.ext' rfl rfl ?_ ?_ ?_ ?_ ?_) (by simp)
    all_goals (first | rfl | omega | (dsimp only; omega))
  · unfold bareE at hb
    simp at hb hk2 v1 a2
    have hnum : numsC c ⟨3, th, tx, at_, v, x, why⟩ = [at_.toNat, zigZ (w64 (x - c.x at_))] := rfl
    rw [hnum] at hs0 ⊢
    rw [if_neg (by decide), if_neg (by decide), if_pos (by decide)]
    have ea : ((at_.toNat : Nat) : Int) = at_ := by omega
    have g0 : numR ⟨s, (pre ++ putN n).length, 0⟩ ((V - 1).toNat) = (at_.toNat, ⟨s, ((pre ++ putN n) ++ putN (at_.toNat)).length, 0⟩) := num_at (rest := putN (zigZ (w64 (x - c.x at_))) ++ rest) (by rw [← hs0]; simp) (by omega) (by omega)
    rw [g0]
    dsimp only
    have g1 : numR ⟨s, ((pre ++ putN n) ++ putN (at_.toNat)).length, 0⟩ (maxU) = (zigZ (w64 (x - c.x at_)), ⟨s, (((pre ++ putN n) ++ putN (at_.toNat)) ++ putN (zigZ (w64 (x - c.x at_)))).length, 0⟩) := num_at (rest := rest) (by rw [← hs0]; simp) (by have := zig_lt _ (w64_ok (x - c.x at_)); unfold maxU; omega) (zig_lt _ (w64_ok _))
    rw [g1]
    dsimp only
    rw [ea, zag_zig, w64_back x _ hx]
    refine Prod.ext (Ev.ext' rfl rfl ?_ ?_ ?_ ?_ ?_) (by simp)
    all_goals (first | rfl | omega | (dsimp only; omega))
  · unfold bareE at hb
    simp at hb hk2 v1 a2
    have hnum : numsC c ⟨4, th, tx, at_, v, x, why⟩ = [at_.toNat] := rfl
    rw [hnum] at hs0 ⊢
    rw [if_neg (by decide), if_neg (by decide), if_neg (by decide), if_pos (by decide)]
    have g0 : numR ⟨s, (pre ++ putN n).length, 0⟩ ((S - 1).toNat) = (at_.toNat, ⟨s, ((pre ++ putN n) ++ putN (at_.toNat)).length, 0⟩) := num_at (rest := rest) (by rw [← hs0]; simp) (by omega) (by omega)
    rw [g0]
    dsimp only
    refine Prod.ext (Ev.ext' rfl rfl ?_ ?_ ?_ ?_ ?_) (by simp)
    all_goals (first | rfl | omega | (dsimp only; omega))
  · unfold bareE at hb
    simp at hb hk2 v1 a2
    have hnum : numsC c ⟨5, th, tx, at_, v, x, why⟩ = [(v - c.clock).toNat] := rfl
    rw [hnum] at hs0 ⊢
    rw [if_neg (by decide), if_neg (by decide), if_neg (by decide), if_neg (by decide), if_pos (by decide)]
    have g0 : numR ⟨s, (pre ++ putN n).length, 0⟩ ((maxClockN - c.clock).toNat) = ((v - c.clock).toNat, ⟨s, ((pre ++ putN n) ++ putN ((v - c.clock).toNat)).length, 0⟩) := num_at (rest := rest) (by rw [← hs0]; simp) (by unfold maxClockN; omega) (by omega)
    rw [g0]
    dsimp only
    rw [if_neg (by omega)]
    refine Prod.ext (Ev.ext' rfl rfl ?_ ?_ ?_ ?_ ?_) (by simp)
    all_goals (first | rfl | omega | (dsimp only; omega))
  · unfold bareE at hb
    simp at hb hk2 v1 a2
    have hnum : numsC c ⟨6, th, tx, at_, v, x, why⟩ = [at_.toNat] := rfl
    rw [hnum] at hs0 ⊢
    rw [if_neg (by decide), if_neg (by decide), if_neg (by decide), if_pos (by decide)]
    have g0 : numR ⟨s, (pre ++ putN n).length, 0⟩ ((S - 1).toNat) = (at_.toNat, ⟨s, ((pre ++ putN n) ++ putN (at_.toNat)).length, 0⟩) := num_at (rest := rest) (by rw [← hs0]; simp) (by omega) (by omega)
    rw [g0]
    dsimp only
    refine Prod.ext (Ev.ext' rfl rfl ?_ ?_ ?_ ?_ ?_) (by simp)
    all_goals (first | rfl | omega | (dsimp only; omega))
  · unfold bareE at hb
    simp at hb hk2 v1 a2
    have hnum : numsC c ⟨7, th, tx, at_, v, x, why⟩ = [if v = 0 then 0 else 1] := rfl
    rw [hnum] at hs0 ⊢
    rw [if_neg (by decide), if_neg (by decide), if_neg (by decide), if_neg (by decide), if_neg (by decide), if_pos (by decide)]
    by_cases hv : v = 0
    · rw [if_pos hv] at hs0 ⊢
      have g0 : numR ⟨s, (pre ++ putN n).length, 0⟩ (1) = (0, ⟨s, ((pre ++ putN n) ++ putN (0)).length, 0⟩) := num_at (rest := rest) (by rw [← hs0]; simp) (by omega) (by omega)
      rw [g0]
      dsimp only
      rw [if_pos rfl]
      refine Prod.ext (Ev.ext' rfl rfl ?_ ?_ ?_ ?_ ?_) (by simp)
      all_goals (first | rfl | omega | (dsimp only; omega))
    · rw [if_neg hv] at hs0 ⊢
      have g0 : numR ⟨s, (pre ++ putN n).length, 0⟩ (1) = (1, ⟨s, ((pre ++ putN n) ++ putN (1)).length, 0⟩) := num_at (rest := rest) (by rw [← hs0]; simp) (by omega) (by omega)
      rw [g0]
      dsimp only
      rw [if_neg (by decide), if_neg (by omega)]
      refine Prod.ext (Ev.ext' rfl rfl ?_ ?_ ?_ ?_ ?_) (by simp)
      all_goals (first | rfl | omega | (dsimp only; omega))
  · unfold bareE at hb
    simp at hb hk2 v1 a2
    have hnum : numsC c ⟨8, th, tx, at_, v, x, why⟩ = [at_.toNat, zigZ (w64 (x - c.x at_))] := rfl
    rw [hnum] at hs0 ⊢
    rw [if_neg (by decide), if_neg (by decide), if_pos (by decide)]
    have ea : ((at_.toNat : Nat) : Int) = at_ := by omega
    have g0 : numR ⟨s, (pre ++ putN n).length, 0⟩ ((V - 1).toNat) = (at_.toNat, ⟨s, ((pre ++ putN n) ++ putN (at_.toNat)).length, 0⟩) := num_at (rest := putN (zigZ (w64 (x - c.x at_))) ++ rest) (by rw [← hs0]; simp) (by omega) (by omega)
    rw [g0]
    dsimp only
    have g1 : numR ⟨s, ((pre ++ putN n) ++ putN (at_.toNat)).length, 0⟩ (maxU) = (zigZ (w64 (x - c.x at_)), ⟨s, (((pre ++ putN n) ++ putN (at_.toNat)) ++ putN (zigZ (w64 (x - c.x at_)))).length, 0⟩) := num_at (rest := rest) (by rw [← hs0]; simp) (by have := zig_lt _ (w64_ok (x - c.x at_)); unfold maxU; omega) (zig_lt _ (w64_ok _))
    rw [g1]
    dsimp only
    rw [ea, zag_zig, w64_back x _ hx]
    refine Prod.ext (Ev.ext' rfl rfl ?_ ?_ ?_ ?_ ?_) (by simp)
    all_goals (first | rfl | omega | (dsimp only; omega))
  · unfold bareE at hb
    simp at hb hk2 v1 a2
    have hnum : numsC c ⟨9, th, tx, at_, v, x, why⟩ = [at_.toNat] := rfl
    rw [hnum] at hs0 ⊢
    rw [if_neg (by decide), if_neg (by decide), if_neg (by decide), if_pos (by decide)]
    have g0 : numR ⟨s, (pre ++ putN n).length, 0⟩ ((S - 1).toNat) = (at_.toNat, ⟨s, ((pre ++ putN n) ++ putN (at_.toNat)).length, 0⟩) := num_at (rest := rest) (by rw [← hs0]; simp) (by omega) (by omega)
    rw [g0]
    dsimp only
    refine Prod.ext (Ev.ext' rfl rfl ?_ ?_ ?_ ?_ ?_) (by simp)
    all_goals (first | rfl | omega | (dsimp only; omega))
  · unfold bareE at hb
    simp at hb hk2 v1 a2
    have hw := hw rfl
    have hnum : numsC c ⟨10, th, tx, at_, v, x, why⟩ = (why - 1).toNat :: (if why = 6 then [] else [at_.toNat]) := rfl
    rw [hnum] at hs0 ⊢
    rw [if_neg (by decide), if_neg (by decide), if_neg (by decide), if_neg (by decide), if_neg (by decide), if_neg (by decide), if_pos (by decide)]
    by_cases hv : why = 6
    · rw [if_pos hv] at hs0 ⊢
      have g0 : numR ⟨s, (pre ++ putN n).length, 0⟩ (5) = ((why - 1).toNat, ⟨s, ((pre ++ putN n) ++ putN ((why - 1).toNat)).length, 0⟩) := num_at (rest := rest) (by rw [← hs0]; simp) (by omega) (by omega)
      rw [g0]
      dsimp only
      rw [if_pos (by omega)]
      refine Prod.ext (Ev.ext' rfl rfl ?_ ?_ ?_ ?_ ?_) (by simp)
      all_goals (first | rfl | omega | (dsimp only; omega))
    · rw [if_neg hv] at hs0 ⊢
      have g0 : numR ⟨s, (pre ++ putN n).length, 0⟩ (5) = ((why - 1).toNat, ⟨s, ((pre ++ putN n) ++ putN ((why - 1).toNat)).length, 0⟩) := num_at (rest := putN at_.toNat ++ rest) (by rw [← hs0]; simp) (by omega) (by omega)
      rw [g0]
      dsimp only
      rw [if_neg (by omega)]
      have g1 : numR ⟨s, ((pre ++ putN n) ++ putN ((why - 1).toNat)).length, 0⟩ ((S - 1).toNat) = (at_.toNat, ⟨s, (((pre ++ putN n) ++ putN ((why - 1).toNat)) ++ putN (at_.toNat)).length, 0⟩) := num_at (rest := rest) (by rw [← hs0]; simp) (by omega) (by omega)
      rw [g1]
      dsimp only
      refine Prod.ext (Ev.ext' rfl rfl ?_ ?_ ?_ ?_ ?_) (by simp)
      all_goals (first | rfl | omega | (dsimp only; omega))
  · unfold bareE at hb
    simp at hb hk2 v1 a2
    have hnum : numsC c ⟨11, th, tx, at_, v, x, why⟩ = [at_.toNat] := rfl
    rw [hnum] at hs0 ⊢
    rw [if_neg (by decide), if_neg (by decide), if_neg (by decide), if_pos (by decide)]
    have g0 : numR ⟨s, (pre ++ putN n).length, 0⟩ ((S - 1).toNat) = (at_.toNat, ⟨s, ((pre ++ putN n) ++ putN (at_.toNat)).length, 0⟩) := num_at (rest := rest) (by rw [← hs0]; simp) (by omega) (by omega)
    rw [g0]
    dsimp only
    refine Prod.ext (Ev.ext' rfl rfl ?_ ?_ ?_ ?_ ?_) (by simp)
    all_goals (first | rfl | omega | (dsimp only; omega))
  · unfold bareE at hb
    simp at hb hk2 v1 a2
    have hnum : numsC c ⟨12, th, tx, at_, v, x, why⟩ = [] := rfl
    rw [hnum] at hs0 ⊢
    rw [if_neg (by decide), if_neg (by decide), if_neg (by decide), if_neg (by decide), if_neg (by decide), if_neg (by decide), if_neg (by decide)]
    refine Prod.ext (Ev.ext' rfl rfl ?_ ?_ ?_ ?_ ?_) (by simp)
    all_goals (first | rfl | omega | (dsimp only; omega))
  · unfold bareE at hb
    simp at hb hk2 v1 a2
    have hnum : numsC c ⟨13, th, tx, at_, v, x, why⟩ = [] := rfl
    rw [hnum] at hs0 ⊢
    rw [if_neg (by decide), if_neg (by decide), if_neg (by decide), if_neg (by decide), if_neg (by decide), if_neg (by decide), if_neg (by decide)]
    refine Prod.ext (Ev.ext' rfl rfl ?_ ?_ ?_ ?_ ?_) (by simp)
    all_goals (first | rfl | omega | (dsimp only; omega))
end Go.Proofs.YtokkafiphchejaaDoor
