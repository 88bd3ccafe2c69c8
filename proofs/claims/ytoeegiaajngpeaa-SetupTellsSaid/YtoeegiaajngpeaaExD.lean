/-
  Expressions as data: the type, its reading in a world, what stays when the world grows, and what each function of expressions comes to. Nothing of the program.
-/
import Derived.Test.YtoeegiaajngpeaaBase
namespace Go.Proofs.Ytoeegiaajngpeaa
set_option linter.unusedVariables false
open Go Go.RowKit

inductive Ex where
  | mk (op n : Int) (args : List Ex)
def Ex.op : Ex → Int | .mk op _ _ => op
def Ex.n : Ex → Int | .mk _ n _ => n
def Ex.args : Ex → List Ex | .mk _ _ l => l

mutual
def RdEx (w : World) : Ex → Value → Value → Value → Prop
  | .mk op n args, v0, v1, v2 => v0 = .int .u8 op ∧ v1 = .int .i64 n ∧ (0 ≤ op ∧ op ≤ 255) ∧ (-9223372036854775808 ≤ n ∧ n ≤ 9223372036854775807) ∧
     ∃ a cap, v2 = .slice a args.length cap ∧ args.length ≤ 9223372036854775807 ∧ (args ≠ [] → ∃ b off, a = some ⟨b, off, none⟩ ∧ RdExs w b off args)
def RdExs (w : World) (b : Nat) (off : Nat) : List Ex → Prop
  | [] => True
  | x :: xs => (∃ v0 v1 v2, w.cell? ⟨b, off, none⟩ = some v0 ∧ w.cell? ⟨b, off + 1, none⟩ = some v1 ∧ w.cell? ⟨b, off + 2, none⟩ = some v2 ∧ RdEx w x v0 v1 v2) ∧ RdExs w b (off + 3) xs
end

mutual
theorem RdEx.below {w w' : World} (hb : Below w.heap.size w w') : ∀ (e : Ex) {v0 v1 v2}, RdEx w e v0 v1 v2 → RdEx w' e v0 v1 v2
  | .mk op n args, v0, v1, v2, h => by
    unfold RdEx at h ⊢
    obtain ⟨h0, h1, h2, h3, a, cap, h4, h5, h6⟩ := h
    refine ⟨h0, h1, h2, h3, a, cap, h4, h5, fun hne => ?_⟩
    obtain ⟨b, off, h7, h8⟩ := h6 hne
    exact ⟨b, off, h7, RdExs.below hb args h8⟩
theorem RdExs.below {w w' : World} (hb : Below w.heap.size w w') : ∀ (l : List Ex) {b off}, RdExs w b off l → RdExs w' b off l
  | [], _, _, _ => by unfold RdExs; trivial
  | x :: xs, b, off, h => by
    unfold RdExs at h ⊢
    obtain ⟨⟨v0, v1, v2, h0, h1, h2, h3⟩, h4⟩ := h
    exact ⟨⟨v0, v1, v2, later hb h0, later hb h1, later hb h2, RdEx.below hb x h3⟩, RdExs.below hb xs h4⟩
end
theorem RdEx.shape {w : World} : ∀ {e : Ex} {v0 v1 v2}, RdEx w e v0 v1 v2 → ∃ a cap, v0 = .int .u8 e.op ∧ v1 = .int .i64 e.n ∧ v2 = .slice a e.args.length cap
  | .mk op n args, v0, v1, v2, h => by
    unfold RdEx at h
    obtain ⟨rfl, rfl, -, -, a, cap, rfl, -, -⟩ := h
    exact ⟨_, _, rfl, rfl, rfl⟩
theorem RdExs.get {w : World} : ∀ (l : List Ex) {b off}, RdExs w b off l → ∀ k (h : k < l.length), ∃ v0 v1 v2,
    w.cell? ⟨b, off + k * 3, none⟩ = some v0 ∧ w.cell? ⟨b, off + k * 3 + 1, none⟩ = some v1 ∧ w.cell? ⟨b, off + k * 3 + 2, none⟩ = some v2 ∧ RdEx w l[k] v0 v1 v2
  | [], _, _, _, k, hk => by simp at hk
  | x :: xs, b, off, h, 0, hk => by
    unfold RdExs at h
    obtain ⟨⟨v0, v1, v2, h0, h1, h2, h3⟩, h4⟩ := h
    exact ⟨v0, v1, v2, by simpa using h0, by simpa using h1, by simpa using h2, h3⟩
  | x :: xs, b, off, h, k + 1, hk => by
    unfold RdExs at h
    obtain ⟨_, h4⟩ := h
    obtain ⟨v0, v1, v2, h0, h1, h2, h3⟩ := RdExs.get xs h4 k (by simpa using hk)
    have e : off + (k + 1) * 3 = off + 3 + k * 3 := by omega
    exact ⟨v0, v1, v2, by rw [e]; exact h0, by rw [e]; exact h1, by rw [e]; exact h2, h3⟩
theorem RdExs.get' {w : World} {l : List Ex} {b off} (h : RdExs w b off l) (k : Nat) (hk : k < l.length) : ∃ a cap,
    w.cell? ⟨b, off + k * 3, none⟩ = some (.int .u8 l[k].op) ∧ w.cell? ⟨b, off + k * 3 + 1, none⟩ = some (.int .i64 l[k].n) ∧ w.cell? ⟨b, off + k * 3 + 2, none⟩ = some (.slice a l[k].args.length cap) ∧ RdEx w l[k] (.int .u8 l[k].op) (.int .i64 l[k].n) (.slice a l[k].args.length cap) := by
  obtain ⟨v0, v1, v2, h0, h1, h2, h3⟩ := RdExs.get l h k hk
  obtain ⟨a, cap, rfl, rfl, rfl⟩ := h3.shape
  exact ⟨a, cap, h0, h1, h2, h3⟩

mutual
def sizeE : Ex → Nat
  | .mk _ _ args => 1 + sizeL args
def sizeL : List Ex → Nat
  | [] => 0
  | x :: xs => sizeE x + sizeL xs
end
theorem sizeL_take_succ (l : List Ex) (k : Nat) (h : k < l.length) : sizeL (l.take (k+1)) = sizeL (l.take k) + sizeE l[k] := by
  induction l generalizing k with
  | nil => simp at h
  | cons x xs ih =>
    cases k with
    | zero => simp [sizeL]
    | succ k => simp [sizeL, ih k (by simpa using h)]; omega
theorem sizeL_take_le (l : List Ex) (k : Nat) : sizeL (l.take k) ≤ sizeL l := by
  induction l generalizing k with
  | nil => simp [sizeL]
  | cons x xs ih =>
    cases k with
    | zero => simp [sizeL]
    | succ k => simp [sizeL, ih k]
theorem sizeL_get_le (l : List Ex) (k : Nat) (h : k < l.length) : sizeE l[k] ≤ sizeL l := by
  have := sizeL_take_succ l k h
  have := sizeL_take_le l (k+1)
  omega
theorem sizeE_pos (e : Ex) : 1 ≤ sizeE e := by cases e; simp [sizeE]

def wholeS : Nat → Ex → Bool
  | 0, _ => false
  | m + 1, .mk op n args =>
    if op = 1 then args.isEmpty
    else if op = 2 then args.isEmpty && decide (0 ≤ n) && decide (n < 8)
    else if op = 3 then args.isEmpty && decide (0 ≤ n) && decide (n < 6)
    else if op < 4 ∨ 8 < op ∨ n ≠ 0 then false
    else match args with
      | [a, b] => wholeS m a && wholeS m b
      | _ => false

mutual
def belowS (n : Int) : Ex → Bool
  | .mk op m args => !(decide (op = 3) && decide (n ≤ m)) && belowL n args
def belowL (n : Int) : List Ex → Bool
  | [] => true
  | x :: xs => belowS n x && belowL n xs
end
def mayS (e : Ex) (n : Int) : Bool := wholeS 6 e && belowS n e

def atS (l : List Int) (n : Int) : Int × Int := if n < l.length then (l.getD n.toNat 0, 0) else (0, 5)
def opS (op x y : Int) : Int :=
  if op = 4 then wrap64 (x + y) else if op = 5 then wrap64 (x - y) else if op = 6 then wrap64 (x * y)
  else if op = 7 then (if x < y then 1 else 0) else (if x = y then 1 else 0)
def comeS (lo go : List Int) : Nat → Ex → Int × Int
  | 0, _ => (0, 0)
  | m + 1, .mk op n args =>
    if op = 1 then (n, 0)
    else if op = 2 then atS lo n
    else if op = 3 then atS go n
    else match args with
      | [a, b] =>
        let x := comeS lo go m a
        if x.2 = 0 then
          let y := comeS lo go m b
          if y.2 = 0 then (opS op x.1 y.1, 0) else (0, y.2)
        else (0, x.2)
      | _ => (0, 0)
def evalS (lo go : List Int) (e : Ex) : Int × Int := if wholeS 6 e then comeS lo go 6 e else (0, 4)

mutual
def sameS : Ex → Ex → Bool
  | .mk op n l, .mk op' n' l' => decide (op = op') && decide (n = n') && sameL l l'
def sameL : List Ex → List Ex → Bool
  | [], [] => true
  | x :: xs, y :: ys => sameS x y && sameL xs ys
  | _, _ => false
end

/-- A slice of ints of 64 bits reads as a list. -/
def RdInts (w : World) (l : List Int) (v : Value) : Prop :=
  ∃ a cap, v = .slice a l.length cap ∧ l.length ≤ 9223372036854775807 ∧ (∀ x ∈ l, -9223372036854775808 ≤ x ∧ x ≤ 9223372036854775807) ∧
    (l ≠ [] → ∃ b off, a = some ⟨b, off, none⟩ ∧ ∀ k (h : k < l.length), w.cell? ⟨b, off + k, none⟩ = some (.int .i64 l[k]))
theorem RdInts.below {w w' : World} (hb : Below w.heap.size w w') {l : List Int} {v : Value} (h : RdInts w l v) : RdInts w' l v := by
  obtain ⟨a, cap, h0, h1, hr, h2⟩ := h
  refine ⟨a, cap, h0, h1, hr, fun hne => ?_⟩
  obtain ⟨b, off, h3, h4⟩ := h2 hne
  exact ⟨b, off, h3, fun k hk => later hb (h4 k hk)⟩
end Go.Proofs.Ytoeegiaajngpeaa
