/-
  One line gone over, whatever its numbers are handed to; with the writer's it is written, with the reader's read. Nothing of the program.
-/
import Derived.Test.YtokkafiphchejaaDoorDeD4
namespace Go.Proofs.YtokkafiphchejaaDoor
set_option linter.unusedVariables false
set_option linter.unusedSimpArgs false
/-- What an event's numbers are handed to. -/
structure Cl (σ : Type) where
  num : σ → Int → Int → Int × σ
  int : σ → Int → Int × σ
  bad : σ → σ
def lineK {σ : Type} (K : Cl σ) (V S : Int) (c : Cdr) (e : Ev) (s : σ) : Ev × σ :=
  if e.kind = 1 then
    let a := K.num s e.tx 5; let b := K.num a.2 (e.v - c.clock) (maxClockN - c.clock); ({ e with tx := a.1, v := c.clock + b.1 }, b.2)
  else if e.kind = 2 then
    let a := K.num s e.at_ (S - 1); let b := K.num a.2 (c.begun e.th - e.v) (c.begun e.th); ({ e with at_ := a.1, v := c.begun e.th - b.1 }, b.2)
  else if e.kind = 3 ∨ e.kind = 8 then
    let a := K.num s e.at_ (V - 1); let b := K.int a.2 (w64 (e.x - c.x a.1)); ({ e with at_ := a.1, x := w64 (c.x a.1 + b.1) }, b.2)
  else if e.kind = 4 ∨ e.kind = 6 ∨ e.kind = 9 ∨ e.kind = 11 then
    let a := K.num s e.at_ (S - 1); ({ e with at_ := a.1 }, a.2)
  else if e.kind = 5 then
    let a := K.num s (e.v - c.clock) (maxClockN - c.clock); ({ e with v := c.clock + a.1 }, if a.1 = 0 then K.bad a.2 else a.2)
  else if e.kind = 7 then
    let a := K.num s (min e.v 1) 1; if a.1 = 0 then ({ e with v := 0 }, a.2) else ({ e with v := c.bumped e.th }, if c.bumped e.th = 0 then K.bad a.2 else a.2)
  else if e.kind = 10 then
    let a := K.num s (e.why - 1) 5; if a.1 + 1 = 6 then ({ e with why := a.1 + 1 }, a.2) else let b := K.num a.2 e.at_ (S - 1); ({ e with why := a.1 + 1, at_ := b.1 }, b.2)
  else (e, s)
def lineG {σ : Type} (K : Cl σ) (T V S : Int) (c : Cdr) (e : Ev) (s : σ) : Ev × σ :=
  let a := K.num s ((e.kind - 1) * T + (e.th - c.last + T) % T) (13 * T - 1)
  lineK K V S c { e with kind := a.1 / T + 1, th := (a.1 % T + c.last) % T } a.2
/-- The writer's. -/
def wCl : Cl (List Nat) := ⟨fun s n _ => (n, s ++ putN n.toNat), fun s x => (x, s ++ putN (zigZ x)), fun s => s⟩
/-- The reader's, with the last number's place. -/
def rCl : Cl (Rdr × Nat) := ⟨fun s _ m => ((numR s.1 m.toNat).1, ((numR s.1 m.toNat).2, s.1.at_)), fun s _ => (zagZ (numR s.1 maxU).1, ((numR s.1 maxU).2, s.2)), fun s => (failR s.1 s.2, s.2)⟩
theorem line_write {T V S : Int} {c : Cdr} {e : Ev} {s : List Nat} (hc : OkC T c) (ht : tellsC T V S c e = true) (hx : -9223372036854775808 ≤ e.x ∧ e.x ≤ 9223372036854775807) : lineG wCl T V S c e s = (e, s ++ bytesC T c e) := by
  unfold tellsC at ht
  rw [Bool.and_eq_true] at ht
  obtain ⟨hm, hk2⟩ := ht
  obtain ⟨hs, ⟨k1, k2, hw, t1, t2, x1, x2, v1, v2, a1, a2⟩, hb⟩ := may_sizes' hm
  obtain ⟨f1, f2, f3, f4⟩ := first_ok (T := T) (k := e.kind) (th := e.th) (last := c.last) ⟨by omega, by omega⟩ ⟨k1, k2⟩ ⟨t1, t2⟩ hc.last
  unfold lineG
  dsimp only [wCl]
  rw [f3, f4]
  have hb0 : bytesC T c e = putN ((e.kind - 1) * T + (e.th - c.last + T) % T).toNat ++ (numsC c e).flatMap putN := by unfold bytesC firstC; rw [List.flatMap_cons]
  rw [hb0, ← List.append_assoc]
  generalize s ++ putN ((e.kind - 1) * T + (e.th - c.last + T) % T).toNat = q
  have hl : 0 ≤ leastV e := by unfold leastV; split <;> omega
  obtain ⟨kind, th, tx, at_, v, x, why⟩ := e
  dsimp only at *
  have hback := w64_back x (c.x at_) hx
  have hc13 : kind = 1 ∨ kind = 2 ∨ kind = 3 ∨ kind = 4 ∨ kind = 5 ∨ kind = 6 ∨ kind = 7 ∨ kind = 8 ∨ kind = 9 ∨ kind = 10 ∨ kind = 11 ∨ kind = 12 ∨ kind = 13 := by omega
  clear f1 f2 f3 f4 hm hb0
  rcases hc13 with rfl | rfl | rfl | rfl | rfl | rfl | rfl | rfl | rfl | rfl | rfl | rfl | rfl
  · unfold bareE at hb
    simp at hb hk2
    rw [show numsC c ⟨1, th, tx, at_, v, x, why⟩ = [tx.toNat, (v - c.clock).toNat] from rfl]
    unfold lineK
    dsimp only
    rw [if_pos (by decide)]
    simp only [List.flatMap_cons, List.flatMap_nil, List.append_nil, ← List.append_assoc]
    all_goals refine Prod.ext (Ev.ext' rfl rfl ?_ ?_ ?_ ?_ ?_) rfl
    all_goals (first | rfl | exact hback | omega | (dsimp only; omega))
  · unfold bareE at hb
    simp at hb hk2
    rw [show numsC c ⟨2, th, tx, at_, v, x, why⟩ = [at_.toNat, (c.begun th - v).toNat] from rfl]
    unfold lineK
    dsimp only
    rw [if_neg (by decide), if_pos (by decide)]
    simp only [List.flatMap_cons, List.flatMap_nil, List.append_nil, ← List.append_assoc]
    all_goals refine Prod.ext (Ev.ext' rfl rfl ?_ ?_ ?_ ?_ ?_) rfl
    all_goals (first | rfl | exact hback | omega | (dsimp only; omega))
  · unfold bareE at hb
    simp at hb hk2
    rw [show numsC c ⟨3, th, tx, at_, v, x, why⟩ = [at_.toNat, zigZ (w64 (x - c.x at_))] from rfl]
    unfold lineK
    dsimp only
    rw [if_neg (by decide), if_neg (by decide), if_pos (by decide)]
    simp only [List.flatMap_cons, List.flatMap_nil, List.append_nil, ← List.append_assoc]
    all_goals refine Prod.ext (Ev.ext' rfl rfl ?_ ?_ ?_ ?_ ?_) rfl
    all_goals (first | rfl | exact hback | omega | (dsimp only; omega))
  · unfold bareE at hb
    simp at hb hk2
    rw [show numsC c ⟨4, th, tx, at_, v, x, why⟩ = [at_.toNat] from rfl]
    unfold lineK
    dsimp only
    rw [if_neg (by decide), if_neg (by decide), if_neg (by decide), if_pos (by decide)]
    simp only [List.flatMap_cons, List.flatMap_nil, List.append_nil, ← List.append_assoc]
    all_goals refine Prod.ext (Ev.ext' rfl rfl ?_ ?_ ?_ ?_ ?_) rfl
    all_goals (first | rfl | exact hback | omega | (dsimp only; omega))
  · unfold bareE at hb
    simp at hb hk2
    rw [show numsC c ⟨5, th, tx, at_, v, x, why⟩ = [(v - c.clock).toNat] from rfl]
    unfold lineK
    dsimp only
    rw [if_neg (by decide), if_neg (by decide), if_neg (by decide), if_neg (by decide), if_pos (by decide)]
    rw [if_neg (by omega)]
    simp only [List.flatMap_cons, List.flatMap_nil, List.append_nil, ← List.append_assoc]
    all_goals refine Prod.ext (Ev.ext' rfl rfl ?_ ?_ ?_ ?_ ?_) rfl
    all_goals (first | rfl | omega | (dsimp only; omega))
  · unfold bareE at hb
    simp at hb hk2
    rw [show numsC c ⟨6, th, tx, at_, v, x, why⟩ = [at_.toNat] from rfl]
    unfold lineK
    dsimp only
    rw [if_neg (by decide), if_neg (by decide), if_neg (by decide), if_pos (by decide)]
    simp only [List.flatMap_cons, List.flatMap_nil, List.append_nil, ← List.append_assoc]
    all_goals refine Prod.ext (Ev.ext' rfl rfl ?_ ?_ ?_ ?_ ?_) rfl
    all_goals (first | rfl | exact hback | omega | (dsimp only; omega))
  · unfold bareE at hb
    simp at hb hk2
    rw [show numsC c ⟨7, th, tx, at_, v, x, why⟩ = [if v = 0 then 0 else 1] from rfl]
    unfold lineK
    dsimp only
    rw [if_neg (by decide), if_neg (by decide), if_neg (by decide), if_neg (by decide), if_neg (by decide), if_pos (by decide)]
    by_cases hv : v = 0
    · subst hv
      rw [if_pos rfl, show min (0 : Int) 1 = 0 by decide]
      rw [if_pos rfl]
      simp only [List.flatMap_cons, List.flatMap_nil, List.append_nil, ← List.append_assoc]
      all_goals refine Prod.ext (Ev.ext' rfl rfl ?_ ?_ ?_ ?_ ?_) rfl
      all_goals (first | rfl | omega | (dsimp only; omega))
    · rw [if_neg hv, show min v 1 = 1 by unfold leastV at *; simp at *; omega]
      rw [if_neg (by decide), if_neg (by omega)]
      simp only [List.flatMap_cons, List.flatMap_nil, List.append_nil, ← List.append_assoc]
      all_goals refine Prod.ext (Ev.ext' rfl rfl ?_ ?_ ?_ ?_ ?_) rfl
      all_goals (first | rfl | omega | (dsimp only; omega))
  · unfold bareE at hb
    simp at hb hk2
    rw [show numsC c ⟨8, th, tx, at_, v, x, why⟩ = [at_.toNat, zigZ (w64 (x - c.x at_))] from rfl]
    unfold lineK
    dsimp only
    rw [if_neg (by decide), if_neg (by decide), if_pos (by decide)]
    simp only [List.flatMap_cons, List.flatMap_nil, List.append_nil, ← List.append_assoc]
    all_goals refine Prod.ext (Ev.ext' rfl rfl ?_ ?_ ?_ ?_ ?_) rfl
    all_goals (first | rfl | exact hback | omega | (dsimp only; omega))
  · unfold bareE at hb
    simp at hb hk2
    rw [show numsC c ⟨9, th, tx, at_, v, x, why⟩ = [at_.toNat] from rfl]
    unfold lineK
    dsimp only
    rw [if_neg (by decide), if_neg (by decide), if_neg (by decide), if_pos (by decide)]
    simp only [List.flatMap_cons, List.flatMap_nil, List.append_nil, ← List.append_assoc]
    all_goals refine Prod.ext (Ev.ext' rfl rfl ?_ ?_ ?_ ?_ ?_) rfl
    all_goals (first | rfl | exact hback | omega | (dsimp only; omega))
  · unfold bareE at hb
    simp at hb hk2
    rw [show numsC c ⟨10, th, tx, at_, v, x, why⟩ = (why - 1).toNat :: (if why = 6 then [] else [at_.toNat]) from rfl]
    unfold lineK
    dsimp only
    rw [if_neg (by decide), if_neg (by decide), if_neg (by decide), if_neg (by decide), if_neg (by decide), if_neg (by decide), if_pos (by decide)]
    by_cases hv : why = 6
    · rw [if_pos hv, if_pos (by omega)]
      simp only [List.flatMap_cons, List.flatMap_nil, List.append_nil, ← List.append_assoc]
      all_goals refine Prod.ext (Ev.ext' rfl rfl ?_ ?_ ?_ ?_ ?_) rfl
      all_goals (first | rfl | omega | (dsimp only; omega))
    · rw [if_neg hv, if_neg (by omega)]
      simp only [List.flatMap_cons, List.flatMap_nil, List.append_nil, ← List.append_assoc]
      all_goals refine Prod.ext (Ev.ext' rfl rfl ?_ ?_ ?_ ?_ ?_) rfl
      all_goals (first | rfl | omega | (dsimp only; omega))
  · unfold bareE at hb
    simp at hb hk2
    rw [show numsC c ⟨11, th, tx, at_, v, x, why⟩ = [at_.toNat] from rfl]
    unfold lineK
    dsimp only
    rw [if_neg (by decide), if_neg (by decide), if_neg (by decide), if_pos (by decide)]
    simp only [List.flatMap_cons, List.flatMap_nil, List.append_nil, ← List.append_assoc]
    all_goals refine Prod.ext (Ev.ext' rfl rfl ?_ ?_ ?_ ?_ ?_) rfl
    all_goals (first | rfl | exact hback | omega | (dsimp only; omega))
  · unfold bareE at hb
    simp at hb hk2
    rw [show numsC c ⟨12, th, tx, at_, v, x, why⟩ = [] from rfl]
    unfold lineK
    dsimp only
    rw [if_neg (by decide), if_neg (by decide), if_neg (by decide), if_neg (by decide), if_neg (by decide), if_neg (by decide), if_neg (by decide)]
    simp
  · unfold bareE at hb
    simp at hb hk2
    rw [show numsC c ⟨13, th, tx, at_, v, x, why⟩ = [] from rfl]
    unfold lineK
    dsimp only
    rw [if_neg (by decide), if_neg (by decide), if_neg (by decide), if_neg (by decide), if_neg (by decide), if_neg (by decide), if_neg (by decide)]
    simp
theorem line_read {T V S : Int} {c : Cdr} {r : Rdr} {p : Nat} : (lineG rCl T V S c ⟨12, 0, 0, 0, 0, 0, 0⟩ (r, p)).1 = (lineR T V S c r).1 ∧ (lineG rCl T V S c ⟨12, 0, 0, 0, 0, 0, 0⟩ (r, p)).2.1 = (lineR T V S c r).2 := by
  unfold lineG lineR lineK
  dsimp only [rCl]
  generalize numR r (13 * T - 1).toNat = a
  obtain ⟨n, ra⟩ := a
  dsimp only
  generalize (n : Int) / T + 1 = k
  generalize ((n : Int) % T + c.last) % T = th
  by_cases h1 : k = 1
  · rw [if_pos h1, if_pos h1]; exact ⟨rfl, rfl⟩
  rw [if_neg h1, if_neg h1]
  by_cases h2 : k = 2
  · rw [if_pos h2, if_pos h2]; exact ⟨rfl, rfl⟩
  rw [if_neg h2, if_neg h2]
  by_cases h3 : k = 3 ∨ k = 8
  · rw [if_pos h3, if_pos h3]; exact ⟨rfl, rfl⟩
  rw [if_neg h3, if_neg h3]
  by_cases h4 : k = 4 ∨ k = 6 ∨ k = 9 ∨ k = 11
  · rw [if_pos h4, if_pos h4]; exact ⟨rfl, rfl⟩
  rw [if_neg h4, if_neg h4]
  by_cases h5 : k = 5
  · rw [if_pos h5, if_pos h5]
    refine ⟨rfl, ?_⟩
    dsimp only
    by_cases hz : (numR ra (maxClockN - c.clock).toNat).1 = 0
    · rw [if_pos (by rw [hz]; rfl), if_pos hz]
    · rw [if_neg (by omega), if_neg hz]
  rw [if_neg h5, if_neg h5]
  by_cases h7 : k = 7
  · rw [if_pos h7, if_pos h7]
    rw [show (1 : Int).toNat = 1 from rfl]
    by_cases hz : (numR ra 1).1 = 0
    · rw [if_pos (by rw [hz]; rfl), if_pos hz]; exact ⟨rfl, rfl⟩
    · rw [if_neg (by omega), if_neg hz]
      refine ⟨rfl, ?_⟩
      dsimp only
      split <;> rfl
  rw [if_neg h7, if_neg h7]
  by_cases h10 : k = 10
  · rw [if_pos h10, if_pos h10]
    rw [show (5 : Int).toNat = 5 from rfl]
    by_cases hz : (numR ra 5).1 + 1 = 6
    · rw [if_pos (by omega), if_pos hz]; exact ⟨rfl, rfl⟩
    · rw [if_neg (by omega), if_neg hz]; exact ⟨rfl, rfl⟩
  rw [if_neg h10, if_neg h10]
  exact ⟨rfl, rfl⟩
end Go.Proofs.YtokkafiphchejaaDoor
