/-
  Statements as data: the type, its reading in a world, what stays when the world grows, and what Cost and Depth come to. Nothing of the program.
-/
import Derived.Test.YtoeegiaajngpeaaExD
namespace Go.Proofs.Ytoeegiaajngpeaa
set_option linter.unusedVariables false
open Go Go.RowKit

inductive St where
  | mk (kind to : Int) (a b : Ex) (body els : List St)
def St.kind : St → Int | .mk k _ _ _ _ _ => k
def St.to : St → Int | .mk _ t _ _ _ _ => t
def St.a : St → Ex | .mk _ _ a _ _ _ => a
def St.b : St → Ex | .mk _ _ _ b _ _ => b
def St.body : St → List St | .mk _ _ _ _ l _ => l
def St.els : St → List St | .mk _ _ _ _ _ l => l

mutual
/-- A statement's ten cells. -/
def RdSt (w : World) : St → Value → Value → Value → Value → Value → Value → Value → Value → Value → Value → Prop
  | .mk kind to a b body els, k, t, a0, a1, a2, b0, b1, b2, bo, el => k = .int .u8 kind ∧ t = .int .i64 to ∧ (0 ≤ kind ∧ kind ≤ 255) ∧ (-9223372036854775808 ≤ to ∧ to ≤ 9223372036854775807) ∧ RdEx w a a0 a1 a2 ∧ RdEx w b b0 b1 b2 ∧
     (∃ p cap, bo = .slice p body.length cap ∧ body.length ≤ 9223372036854775807 ∧ (body ≠ [] → ∃ q off, p = some ⟨q, off, none⟩ ∧ RdSts w q off body)) ∧
     (∃ p cap, el = .slice p els.length cap ∧ els.length ≤ 9223372036854775807 ∧ (els ≠ [] → ∃ q off, p = some ⟨q, off, none⟩ ∧ RdSts w q off els))
def RdSts (w : World) (q : Nat) (off : Nat) : List St → Prop
  | [] => True
  | x :: xs => (∃ k t a0 a1 a2 b0 b1 b2 bo el, w.cell? ⟨q, off, none⟩ = some k ∧ w.cell? ⟨q, off + 1, none⟩ = some t ∧ w.cell? ⟨q, off + 2, none⟩ = some a0 ∧ w.cell? ⟨q, off + 3, none⟩ = some a1 ∧ w.cell? ⟨q, off + 4, none⟩ = some a2 ∧
      w.cell? ⟨q, off + 5, none⟩ = some b0 ∧ w.cell? ⟨q, off + 6, none⟩ = some b1 ∧ w.cell? ⟨q, off + 7, none⟩ = some b2 ∧ w.cell? ⟨q, off + 8, none⟩ = some bo ∧ w.cell? ⟨q, off + 9, none⟩ = some el ∧ RdSt w x k t a0 a1 a2 b0 b1 b2 bo el) ∧ RdSts w q (off + 10) xs
end
/-- A row of statements as a slice's value. -/
def RdTx (w : World) (l : List St) (v : Value) : Prop := ∃ p cap, v = .slice p l.length cap ∧ l.length ≤ 9223372036854775807 ∧ (l ≠ [] → ∃ q off, p = some ⟨q, off, none⟩ ∧ RdSts w q off l)

mutual
theorem RdSt.below {w w' : World} (hb : Below w.heap.size w w') : ∀ (s : St) {k t a0 a1 a2 b0 b1 b2 bo el}, RdSt w s k t a0 a1 a2 b0 b1 b2 bo el → RdSt w' s k t a0 a1 a2 b0 b1 b2 bo el
  | .mk kind to a b body els, k, t, a0, a1, a2, b0, b1, b2, bo, el, h => by
    unfold RdSt at h ⊢
    obtain ⟨h0, h1, h2, h3, h4, h5, ⟨p, cap, h6, h7, h8⟩, ⟨p', cap', h9, h10, h11⟩⟩ := h
    refine ⟨h0, h1, h2, h3, RdEx.below hb a h4, RdEx.below hb b h5, ⟨p, cap, h6, h7, fun hne => ?_⟩, ⟨p', cap', h9, h10, fun hne => ?_⟩⟩
    · obtain ⟨q, off, h12, h13⟩ := h8 hne
      exact ⟨q, off, h12, RdSts.below hb body h13⟩
    · obtain ⟨q, off, h12, h13⟩ := h11 hne
      exact ⟨q, off, h12, RdSts.below hb els h13⟩
theorem RdSts.below {w w' : World} (hb : Below w.heap.size w w') : ∀ (l : List St) {q off}, RdSts w q off l → RdSts w' q off l
  | [], _, _, _ => by unfold RdSts; trivial
  | x :: xs, q, off, h => by
    unfold RdSts at h ⊢
    obtain ⟨⟨k, t, a0, a1, a2, b0, b1, b2, bo, el, h0, h1, h2, h3, h4, h5, h6, h7, h8, h9, h10⟩, h11⟩ := h
    exact ⟨⟨k, t, a0, a1, a2, b0, b1, b2, bo, el, later hb h0, later hb h1, later hb h2, later hb h3, later hb h4, later hb h5, later hb h6, later hb h7, later hb h8, later hb h9, RdSt.below hb x h10⟩, RdSts.below hb xs h11⟩
end
theorem RdTx.below {w w' : World} (hb : Below w.heap.size w w') {l : List St} {v : Value} (h : RdTx w l v) : RdTx w' l v := by
  obtain ⟨p, cap, h1, h2, h3⟩ := h
  refine ⟨p, cap, h1, h2, fun hne => ?_⟩
  obtain ⟨q, off, h4, h5⟩ := h3 hne
  exact ⟨q, off, h4, h5.below hb l⟩
theorem RdSt.shape {w : World} : ∀ {s : St} {k t a0 a1 a2 b0 b1 b2 bo el}, RdSt w s k t a0 a1 a2 b0 b1 b2 bo el → k = .int .u8 s.kind ∧ t = .int .i64 s.to ∧ RdEx w s.a a0 a1 a2 ∧ RdEx w s.b b0 b1 b2 ∧ RdTx w s.body bo ∧ RdTx w s.els el
  | .mk kind to a b body els, k, t, a0, a1, a2, b0, b1, b2, bo, el, h => by
    unfold RdSt at h
    obtain ⟨h0, h1, -, -, h4, h5, h6, h7⟩ := h
    exact ⟨h0, h1, h4, h5, h6, h7⟩
theorem RdSts.get {w : World} : ∀ (l : List St) {q off}, RdSts w q off l → ∀ n (h : n < l.length), ∃ k t a0 a1 a2 b0 b1 b2 bo el,
    w.cell? ⟨q, off + n * 10, none⟩ = some k ∧ w.cell? ⟨q, off + n * 10 + 1, none⟩ = some t ∧ w.cell? ⟨q, off + n * 10 + 2, none⟩ = some a0 ∧ w.cell? ⟨q, off + n * 10 + 3, none⟩ = some a1 ∧ w.cell? ⟨q, off + n * 10 + 4, none⟩ = some a2 ∧
      w.cell? ⟨q, off + n * 10 + 5, none⟩ = some b0 ∧ w.cell? ⟨q, off + n * 10 + 6, none⟩ = some b1 ∧ w.cell? ⟨q, off + n * 10 + 7, none⟩ = some b2 ∧ w.cell? ⟨q, off + n * 10 + 8, none⟩ = some bo ∧ w.cell? ⟨q, off + n * 10 + 9, none⟩ = some el ∧ RdSt w l[n] k t a0 a1 a2 b0 b1 b2 bo el
  | [], _, _, _, n, hn => by simp at hn
  | x :: xs, q, off, h, 0, hn => by
    unfold RdSts at h
    obtain ⟨hx, -⟩ := h
    simpa using hx
  | x :: xs, q, off, h, n + 1, hn => by
    unfold RdSts at h
    obtain ⟨-, h4⟩ := h
    have hx := RdSts.get xs h4 n (by simpa using hn)
    have e : off + (n + 1) * 10 = off + 10 + n * 10 := by omega
    rw [e]
    exact hx

mutual
def sizeS : St → Nat
  | .mk _ _ _ _ body els => 1 + sizeT body + sizeT els
def sizeT : List St → Nat
  | [] => 0
  | x :: xs => sizeS x + sizeT xs
end
theorem sizeT_get (l : List St) (n : Nat) (h : n < l.length) : sizeS l[n] ≤ sizeT l := by
  induction l generalizing n with
  | nil => simp at h
  | cons x xs ih =>
    cases n with
    | zero => simp [sizeT]
    | succ n => simp only [List.getElem_cons_succ, sizeT]; have := ih n (by simpa using h); omega
theorem sizeS_body (s : St) : sizeT s.body < sizeS s := by cases s; simp only [St.body, sizeS]; omega
theorem sizeS_els (s : St) : sizeT s.els < sizeS s := by cases s; simp only [St.els, sizeS]; omega

mutual
/-- A statement's cost, and what is within. -/
def costS : St → Nat
  | .mk kind _ _ _ body els => 1 + (if kind = 4 then max (costT 0 body) (costT 0 els) else if kind = 5 then 8 * costT 0 body else if kind = 7 then costT 0 body + costT 0 els else 0)
def costT (sum : Nat) : List St → Nat
  | [] => sum
  | x :: xs => costT (min (sum + costS x) 2001) xs
end
mutual
def depthS : St → Nat
  | .mk _ _ _ _ body els => max (if body.isEmpty then 0 else depthT 0 body + 1) (if els.isEmpty then 0 else depthT 0 els + 1)
def depthT (n : Nat) : List St → Nat
  | [] => n
  | x :: xs => depthT (max n (depthS x)) xs
end
theorem costT_le : ∀ (l : List St) (n : Nat), n ≤ 2001 → costT n l ≤ 2001
  | [], n, h => by unfold costT; exact h
  | x :: xs, n, h => by unfold costT; exact costT_le xs _ (by omega)
theorem costT_take (l : List St) : ∀ (n k : Nat) (h : k < l.length), costT n (l.take (k + 1)) = min (costT n (l.take k) + costS l[k]) 2001 := by
  induction l with
  | nil => intro n k h; simp at h
  | cons x xs ih =>
    intro n k h
    cases k with
    | zero => simp [costT]
    | succ k => simp only [List.take_succ_cons, costT, List.getElem_cons_succ]; exact ih _ k (by simpa using h)
theorem depthT_take (l : List St) : ∀ (n k : Nat) (h : k < l.length), depthT n (l.take (k + 1)) = max (depthT n (l.take k)) (depthS l[k]) := by
  induction l with
  | nil => intro n k h; simp at h
  | cons x xs ih =>
    intro n k h
    cases k with
    | zero => simp [depthT]
    | succ k => simp only [List.take_succ_cons, depthT, List.getElem_cons_succ]; exact ih _ k (by simpa using h)
end Go.Proofs.Ytoeegiaajngpeaa
