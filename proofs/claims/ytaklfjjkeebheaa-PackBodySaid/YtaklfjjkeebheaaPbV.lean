/-
  Joined texts: Var DeD ExD CoD PkP PkQ.
-/
import Derived.Test.YtaklfjjkeebheaaBase
/-
  Numbers as bytes, plainly: seven bits a byte, the least ones first. Nothing of the program.
-/
namespace Go.Proofs.Ytaklfjjkeebheaa
set_option linter.unusedVariables false
def putF : Nat → Nat → List Nat
  | 0, _ => []
  | k + 1, n => if n < 128 then [n] else (n % 128 + 128) :: putF k (n / 128)
def putN (n : Nat) : List Nat := putF 10 n
/-- number, how many bytes, error -/
def getF : Nat → Nat → Nat → Nat → List Nat → Nat × Nat × Nat
  | 0, _, _, _, _ => (0, 0, 20)
  | _ + 1, _, _, _, [] => (0, 0, 8)
  | k + 1, i, n, u, b :: bs => if i = 9 ∧ 1 < b then (0, 0, 20) else if b < 128 then (if b = 0 ∧ 0 < i then (0, 0, 11) else (n + b * u, i + 1, 0)) else getF k (i + 1) (n + (b - 128) * u) (u * 128) bs
def getN (l : List Nat) : Nat × Nat × Nat := getF 10 0 0 1 l

theorem putF_len : ∀ (k n : Nat), (putF k n).length ≤ k
  | 0, _ => by simp [putF]
  | k + 1, n => by
    unfold putF; split
    · simp
    · have := putF_len k (n / 128); simp; omega
theorem putF_byte : ∀ (k n : Nat), ∀ c ∈ putF k n, c < 256
  | 0, _, c, h => by simp [putF] at h
  | k + 1, n, c, h => by
    unfold putF at h; split at h
    · simp at h; omega
    · simp only [List.mem_cons] at h
      rcases h with rfl | h
      · omega
      · exact putF_byte k _ c h
/-- What was put is got, and what stands behind it is not looked at. -/
theorem get_put_aux : ∀ (k : Nat) (n a u i : Nat) (rest : List Nat), k + i = 10 → 1 ≤ k → n < 2 ^ (64 - 7 * i) → (0 < i → 0 < n) → getF k i a u (putF k n ++ rest) = (a + n * u, i + (putF k n).length, 0)
  | 0, _, _, _, _, _, _, h, _, _ => by omega
  | k + 1, n, a, u, i, rest, hk, _, hn, h0 => by
    by_cases h : n < 128
    · have h9 : ¬ (i = 9 ∧ 1 < n) := fun ⟨h1, h2⟩ => by subst h1; simp at hn; omega
      have hz : ¬ (n = 0 ∧ 0 < i) := fun ⟨h1, h2⟩ => by have := h0 h2; omega
      simp [putF, h, getF, h9, hz]
    · have hi : i < 9 := by
        rcases Nat.lt_or_ge i 9 with h' | h'
        · exact h'
        · have : i = 9 := by omega
          subst this; simp at hn; omega
      have h9 : ¬ (i = 9 ∧ 1 < n % 128 + 128) := by omega
      have hb : ¬ n % 128 + 128 < 128 := by omega
      simp only [putF, h, if_false, List.cons_append, getF, h9, hb]
      rw [get_put_aux k (n / 128) _ _ (i + 1) rest (by omega) (by omega) ?_ (by omega)]
      · have e : n = n % 128 + n / 128 * 128 := by omega
        simp only [Nat.add_sub_cancel, List.length_cons, Prod.mk.injEq, and_true]
        refine ⟨?_, by omega⟩
        have : n * u = (n % 128 + n / 128 * 128) * u := by rw [← e]
        rw [this, Nat.add_mul, Nat.mul_assoc, Nat.mul_comm 128 u, Nat.add_assoc]
      · have e : 64 - 7 * i = (64 - 7 * (i + 1)) + 7 := by omega
        rw [e, Nat.pow_add] at hn
        exact Nat.div_lt_of_lt_mul (by rw [Nat.mul_comm]; exact hn)
theorem get_put (n : Nat) (rest : List Nat) (h : n < 18446744073709551616) : getN (putN n ++ rest) = (n, (putN n).length, 0) := by
  have := get_put_aux 10 n 0 1 0 rest (by omega) (by omega) (by simpa using h) (by omega)
  simpa [getN, putN] using this
/-- What is got was put so. -/
theorem put_get_aux : ∀ (k : Nat) (l : List Nat) (a u i m s : Nat), k + i = 10 → (∀ c ∈ l, c < 256) → getF k i a u l = (m, s, 0) → ∃ n, m = a + n * u ∧ i < s ∧ s ≤ 10 ∧ s - i ≤ l.length ∧ l.take (s - i) = putF k n ∧ n < 2 ^ (64 - 7 * i) ∧ (0 < i → 0 < n)
  | 0, l, a, u, i, m, s, _, _, h => by simp [getF] at h
  | k + 1, [], a, u, i, m, s, _, _, h => by simp [getF] at h
  | k + 1, b :: bs, a, u, i, m, s, hk, hl, h => by
    have hb := hl b (by simp)
    unfold getF at h
    split at h
    · simp at h
    rename_i h9
    split at h
    · rename_i hlt
      split at h
      · simp at h
      rename_i hz
      simp only [Prod.mk.injEq, and_true] at h
      obtain ⟨rfl, rfl⟩ := h
      refine ⟨b, rfl, by omega, by omega, by simp, by simp [putF, hlt], ?_, by omega⟩
      by_cases hi : i = 9
      · subst hi; simp; omega
      · exact Nat.lt_of_lt_of_le hlt (by have := Nat.pow_le_pow_right (n := 2) (by decide) (show 7 ≤ 64 - 7 * i by omega); simpa using this)
    · rename_i hge
      obtain ⟨n, rfl, h1, h2, h3, h4, h5, h6⟩ := put_get_aux k bs _ _ (i + 1) m s (by omega) (fun c hc => hl c (by simp [hc])) h
      have hn : 0 < n := h6 (by omega)
      have hi : i < 9 := by
        rcases Nat.lt_or_ge i 9 with h' | h'
        · exact h'
        · omega
      refine ⟨(b - 128) + n * 128, ?_, by omega, h2, by simp; omega, ?_, ?_, by omega⟩
      · rw [Nat.add_mul, Nat.mul_assoc n, Nat.mul_comm 128 u, Nat.add_assoc]
      · obtain ⟨t, ht⟩ : ∃ t, s - i = t + 1 := ⟨s - i - 1, by omega⟩
        have e1 : ¬ (b - 128) + n * 128 < 128 := by omega
        have e2 : ((b - 128) + n * 128) % 128 + 128 = b := by omega
        have e3 : ((b - 128) + n * 128) / 128 = n := by omega
        rw [ht, List.take_succ_cons]
        simp only [putF, e1, if_false, e2, e3]
        rw [← h4]
        congr 2
        omega
      · have e : 64 - 7 * i = (64 - 7 * (i + 1)) + 7 := by omega
        rw [e, Nat.pow_add]
        omega
theorem put_get {l : List Nat} {m s : Nat} (hl : ∀ c ∈ l, c < 256) (h : getN l = (m, s, 0)) : l.take s = putN m ∧ 0 < s ∧ s ≤ 10 ∧ s ≤ l.length ∧ m < 18446744073709551616 := by
  obtain ⟨n, rfl, h1, h2, h3, h4, h5, -⟩ := put_get_aux 10 l 0 1 0 m s (by omega) hl h
  simp only [Nat.zero_add, Nat.mul_one, Nat.sub_zero] at *
  exact ⟨h4, h1, h2, h3, by simpa using h5⟩
theorem getF_err : ∀ (k i a u : Nat) (l : List Nat) {m s e : Nat}, getF k i a u l = (m, s, e) → e ≠ 0 → m = 0 ∧ s = 0
  | 0, _, _, _, _, m, s, e, h, _ => by simp [getF] at h; omega
  | _ + 1, _, _, _, [], m, s, e, h, _ => by simp [getF] at h; omega
  | k + 1, i, a, u, b :: bs, m, s, e, h, he => by
    unfold getF at h
    split at h
    · simp at h; omega
    split at h
    · split at h
      · simp at h; omega
      · simp at h; omega
    · exact getF_err k _ _ _ bs h he
end Go.Proofs.Ytaklfjjkeebheaa
/-
  Bytes as they are read, plainly (of DeD, what names no event).
-/
namespace Go.Proofs.Ytaklfjjkeebheaa
set_option linter.unusedVariables false
def zigZ (x : Int) : Nat := if 0 ≤ x then (2 * x).toNat else (-2 * x - 1).toNat
def zagZ (n : Nat) : Int := if n % 2 = 0 then (n / 2 : Nat) else -((n / 2 : Nat) : Int) - 1
theorem zag_zig (x : Int) : zagZ (zigZ x) = x := by
  unfold zagZ zigZ
  split <;> split <;> omega
theorem zig_zag (n : Nat) : zigZ (zagZ n) = n := by
  unfold zagZ zigZ
  split <;> split <;> omega
theorem zig_lt (x : Int) (h : -9223372036854775808 ≤ x ∧ x ≤ 9223372036854775807) : zigZ x < 18446744073709551616 := by
  unfold zigZ; split <;> omega
theorem zag_ok (n : Nat) (h : n < 18446744073709551616) : -9223372036854775808 ≤ zagZ n ∧ zagZ n ≤ 9223372036854775807 := by
  unfold zagZ; split <;> omega
/-- A reader: what is left, its place, what was wrong. -/
structure Rdr where
  s : List Nat
  at_ : Nat
  err : Nat
def numR (r : Rdr) (most : Nat) : Nat × Rdr :=
  if r.err ≠ 0 then (0, r) else match getN (r.s.drop r.at_) with
  | (n, size, e) => if e ≠ 0 then (0, { r with err := e }) else if most < n then (0, { r with err := 20 }) else (n, { r with at_ := r.at_ + size })
def failR (r : Rdr) (place : Nat) : Rdr := if r.err ≠ 0 then r else { r with at_ := place, err := 20 }
def maxU : Nat := 18446744073709551615
end Go.Proofs.Ytaklfjjkeebheaa
/-
  Expressions as data: the type, its reading in a world, what stays when the world grows, and what each function of expressions comes to. Nothing of the program.
-/
namespace Go.Proofs.Ytaklfjjkeebheaa
set_option linter.unusedVariables false
open Go Go.RowKit

inductive Ex where
  | mk (op n : Int) (args : List Ex)
def Ex.op : Ex → Int | .mk op _ _ => op
def Ex.n : Ex → Int | .mk _ n _ => n
def Ex.args : Ex → List Ex | .mk _ _ l => l

mutual
def RdEx (w : World) : Ex → Value → Value → Value → Prop
  | .mk op n args, v0, v1, v2 => v0 = .int .u8 op ∧ v1 = .int .i64 n ∧ (0 ≤ op ∧ op ≤ 255) ∧ (-9223372036854775808 ≤ n ∧ n ≤ 9223372036854775807) ∧
     ∃ a cap, v2 = .slice a args.length cap ∧ args.length ≤ 9223372036854775807 ∧ (args ≠ [] → ∃ b off, a = some ⟨b, off, none⟩ ∧ RdExs w b off args)
def RdExs (w : World) (b : Nat) (off : Nat) : List Ex → Prop
  | [] => True
  | x :: xs => (∃ v0 v1 v2, w.cell? ⟨b, off, none⟩ = some v0 ∧ w.cell? ⟨b, off + 1, none⟩ = some v1 ∧ w.cell? ⟨b, off + 2, none⟩ = some v2 ∧ RdEx w x v0 v1 v2) ∧ RdExs w b (off + 3) xs
end

mutual
theorem RdEx.below {w w' : World} (hb : Below w.heap.size w w') : ∀ (e : Ex) {v0 v1 v2}, RdEx w e v0 v1 v2 → RdEx w' e v0 v1 v2
  | .mk op n args, v0, v1, v2, h => by
    unfold RdEx at h ⊢
    obtain ⟨h0, h1, h2, h3, a, cap, h4, h5, h6⟩ := h
    refine ⟨h0, h1, h2, h3, a, cap, h4, h5, fun hne => ?_⟩
    obtain ⟨b, off, h7, h8⟩ := h6 hne
    exact ⟨b, off, h7, RdExs.below hb args h8⟩
theorem RdExs.below {w w' : World} (hb : Below w.heap.size w w') : ∀ (l : List Ex) {b off}, RdExs w b off l → RdExs w' b off l
  | [], _, _, _ => by unfold RdExs; trivial
  | x :: xs, b, off, h => by
    unfold RdExs at h ⊢
    obtain ⟨⟨v0, v1, v2, h0, h1, h2, h3⟩, h4⟩ := h
    exact ⟨⟨v0, v1, v2, later hb h0, later hb h1, later hb h2, RdEx.below hb x h3⟩, RdExs.below hb xs h4⟩
end
theorem RdEx.shape {w : World} : ∀ {e : Ex} {v0 v1 v2}, RdEx w e v0 v1 v2 → ∃ a cap, v0 = .int .u8 e.op ∧ v1 = .int .i64 e.n ∧ v2 = .slice a e.args.length cap
  | .mk op n args, v0, v1, v2, h => by
    unfold RdEx at h
    obtain ⟨rfl, rfl, -, -, a, cap, rfl, -, -⟩ := h
    exact ⟨_, _, rfl, rfl, rfl⟩
theorem RdExs.get {w : World} : ∀ (l : List Ex) {b off}, RdExs w b off l → ∀ k (h : k < l.length), ∃ v0 v1 v2,
    w.cell? ⟨b, off + k * 3, none⟩ = some v0 ∧ w.cell? ⟨b, off + k * 3 + 1, none⟩ = some v1 ∧ w.cell? ⟨b, off + k * 3 + 2, none⟩ = some v2 ∧ RdEx w l[k] v0 v1 v2
  | [], _, _, _, k, hk => by simp at hk
  | x :: xs, b, off, h, 0, hk => by
    unfold RdExs at h
    obtain ⟨⟨v0, v1, v2, h0, h1, h2, h3⟩, h4⟩ := h
    exact ⟨v0, v1, v2, by simpa using h0, by simpa using h1, by simpa using h2, h3⟩
  | x :: xs, b, off, h, k + 1, hk => by
    unfold RdExs at h
    obtain ⟨_, h4⟩ := h
    obtain ⟨v0, v1, v2, h0, h1, h2, h3⟩ := RdExs.get xs h4 k (by simpa using hk)
    have e : off + (k + 1) * 3 = off + 3 + k * 3 := by omega
    exact ⟨v0, v1, v2, by rw [e]; exact h0, by rw [e]; exact h1, by rw [e]; exact h2, h3⟩
theorem RdExs.get' {w : World} {l : List Ex} {b off} (h : RdExs w b off l) (k : Nat) (hk : k < l.length) : ∃ a cap,
    w.cell? ⟨b, off + k * 3, none⟩ = some (.int .u8 l[k].op) ∧ w.cell? ⟨b, off + k * 3 + 1, none⟩ = some (.int .i64 l[k].n) ∧ w.cell? ⟨b, off + k * 3 + 2, none⟩ = some (.slice a l[k].args.length cap) ∧ RdEx w l[k] (.int .u8 l[k].op) (.int .i64 l[k].n) (.slice a l[k].args.length cap) := by
  obtain ⟨v0, v1, v2, h0, h1, h2, h3⟩ := RdExs.get l h k hk
  obtain ⟨a, cap, rfl, rfl, rfl⟩ := h3.shape
  exact ⟨a, cap, h0, h1, h2, h3⟩

mutual
def sizeE : Ex → Nat
  | .mk _ _ args => 1 + sizeL args
def sizeL : List Ex → Nat
  | [] => 0
  | x :: xs => sizeE x + sizeL xs
end
theorem sizeL_take_succ (l : List Ex) (k : Nat) (h : k < l.length) : sizeL (l.take (k+1)) = sizeL (l.take k) + sizeE l[k] := by
  induction l generalizing k with
  | nil => simp at h
  | cons x xs ih =>
    cases k with
    | zero => simp [sizeL]
    | succ k => simp [sizeL, ih k (by simpa using h)]; omega
theorem sizeL_take_le (l : List Ex) (k : Nat) : sizeL (l.take k) ≤ sizeL l := by
  induction l generalizing k with
  | nil => simp [sizeL]
  | cons x xs ih =>
    cases k with
    | zero => simp [sizeL]
    | succ k => simp [sizeL, ih k]
theorem sizeL_get_le (l : List Ex) (k : Nat) (h : k < l.length) : sizeE l[k] ≤ sizeL l := by
  have := sizeL_take_succ l k h
  have := sizeL_take_le l (k+1)
  omega
theorem sizeE_pos (e : Ex) : 1 ≤ sizeE e := by cases e; simp [sizeE]

def wholeS : Nat → Ex → Bool
  | 0, _ => false
  | m + 1, .mk op n args =>
    if op = 1 then args.isEmpty
    else if op = 2 then args.isEmpty && decide (0 ≤ n) && decide (n < 8)
    else if op = 3 then args.isEmpty && decide (0 ≤ n) && decide (n < 6)
    else if op < 4 ∨ 8 < op ∨ n ≠ 0 then false
    else match args with
      | [a, b] => wholeS m a && wholeS m b
      | _ => false

mutual
def belowS (n : Int) : Ex → Bool
  | .mk op m args => !(decide (op = 3) && decide (n ≤ m)) && belowL n args
def belowL (n : Int) : List Ex → Bool
  | [] => true
  | x :: xs => belowS n x && belowL n xs
end
def mayS (e : Ex) (n : Int) : Bool := wholeS 6 e && belowS n e

def atS (l : List Int) (n : Int) : Int × Int := if n < l.length then (l.getD n.toNat 0, 0) else (0, 5)
def opS (op x y : Int) : Int :=
  if op = 4 then wrap64 (x + y) else if op = 5 then wrap64 (x - y) else if op = 6 then wrap64 (x * y)
  else if op = 7 then (if x < y then 1 else 0) else (if x = y then 1 else 0)
def comeS (lo go : List Int) : Nat → Ex → Int × Int
  | 0, _ => (0, 0)
  | m + 1, .mk op n args =>
    if op = 1 then (n, 0)
    else if op = 2 then atS lo n
    else if op = 3 then atS go n
    else match args with
      | [a, b] =>
        let x := comeS lo go m a
        if x.2 = 0 then
          let y := comeS lo go m b
          if y.2 = 0 then (opS op x.1 y.1, 0) else (0, y.2)
        else (0, x.2)
      | _ => (0, 0)
def evalS (lo go : List Int) (e : Ex) : Int × Int := if wholeS 6 e then comeS lo go 6 e else (0, 4)

mutual
def sameS : Ex → Ex → Bool
  | .mk op n l, .mk op' n' l' => decide (op = op') && decide (n = n') && sameL l l'
def sameL : List Ex → List Ex → Bool
  | [], [] => true
  | x :: xs, y :: ys => sameS x y && sameL xs ys
  | _, _ => false
end

/-- A slice of ints of 64 bits reads as a list. -/
def RdInts (w : World) (l : List Int) (v : Value) : Prop :=
  ∃ a cap, v = .slice a l.length cap ∧ l.length ≤ 9223372036854775807 ∧ (∀ x ∈ l, -9223372036854775808 ≤ x ∧ x ≤ 9223372036854775807) ∧
    (l ≠ [] → ∃ b off, a = some ⟨b, off, none⟩ ∧ ∀ k (h : k < l.length), w.cell? ⟨b, off + k, none⟩ = some (.int .i64 l[k]))
theorem RdInts.below {w w' : World} (hb : Below w.heap.size w w') {l : List Int} {v : Value} (h : RdInts w l v) : RdInts w' l v := by
  obtain ⟨a, cap, h0, h1, hr, h2⟩ := h
  refine ⟨a, cap, h0, h1, hr, fun hne => ?_⟩
  obtain ⟨b, off, h3, h4⟩ := h2 hne
  exact ⟨b, off, h3, fun k hk => later hb (h4 k hk)⟩
end Go.Proofs.Ytaklfjjkeebheaa
/-
  Statements as data: the type, its reading in a world, what stays when the world grows, and what Cost and Depth come to. Nothing of the program.
-/
namespace Go.Proofs.Ytaklfjjkeebheaa
set_option linter.unusedVariables false
open Go Go.RowKit

inductive St where
  | mk (kind to : Int) (a b : Ex) (body els : List St)
def St.kind : St → Int | .mk k _ _ _ _ _ => k
def St.to : St → Int | .mk _ t _ _ _ _ => t
def St.a : St → Ex | .mk _ _ a _ _ _ => a
def St.b : St → Ex | .mk _ _ _ b _ _ => b
def St.body : St → List St | .mk _ _ _ _ l _ => l
def St.els : St → List St | .mk _ _ _ _ _ l => l

mutual
/-- A statement's ten cells. -/
def RdSt (w : World) : St → Value → Value → Value → Value → Value → Value → Value → Value → Value → Value → Prop
  | .mk kind to a b body els, k, t, a0, a1, a2, b0, b1, b2, bo, el => k = .int .u8 kind ∧ t = .int .i64 to ∧ (0 ≤ kind ∧ kind ≤ 255) ∧ (-9223372036854775808 ≤ to ∧ to ≤ 9223372036854775807) ∧ RdEx w a a0 a1 a2 ∧ RdEx w b b0 b1 b2 ∧
     (∃ p cap, bo = .slice p body.length cap ∧ body.length ≤ 9223372036854775807 ∧ (body ≠ [] → ∃ q off, p = some ⟨q, off, none⟩ ∧ RdSts w q off body)) ∧
     (∃ p cap, el = .slice p els.length cap ∧ els.length ≤ 9223372036854775807 ∧ (els ≠ [] → ∃ q off, p = some ⟨q, off, none⟩ ∧ RdSts w q off els))
def RdSts (w : World) (q : Nat) (off : Nat) : List St → Prop
  | [] => True
  | x :: xs => (∃ k t a0 a1 a2 b0 b1 b2 bo el, w.cell? ⟨q, off, none⟩ = some k ∧ w.cell? ⟨q, off + 1, none⟩ = some t ∧ w.cell? ⟨q, off + 2, none⟩ = some a0 ∧ w.cell? ⟨q, off + 3, none⟩ = some a1 ∧ w.cell? ⟨q, off + 4, none⟩ = some a2 ∧
      w.cell? ⟨q, off + 5, none⟩ = some b0 ∧ w.cell? ⟨q, off + 6, none⟩ = some b1 ∧ w.cell? ⟨q, off + 7, none⟩ = some b2 ∧ w.cell? ⟨q, off + 8, none⟩ = some bo ∧ w.cell? ⟨q, off + 9, none⟩ = some el ∧ RdSt w x k t a0 a1 a2 b0 b1 b2 bo el) ∧ RdSts w q (off + 10) xs
end
/-- A row of statements as a slice's value. -/
def RdTx (w : World) (l : List St) (v : Value) : Prop := ∃ p cap, v = .slice p l.length cap ∧ l.length ≤ 9223372036854775807 ∧ (l ≠ [] → ∃ q off, p = some ⟨q, off, none⟩ ∧ RdSts w q off l)

mutual
theorem RdSt.below {w w' : World} (hb : Below w.heap.size w w') : ∀ (s : St) {k t a0 a1 a2 b0 b1 b2 bo el}, RdSt w s k t a0 a1 a2 b0 b1 b2 bo el → RdSt w' s k t a0 a1 a2 b0 b1 b2 bo el
  | .mk kind to a b body els, k, t, a0, a1, a2, b0, b1, b2, bo, el, h => by
    unfold RdSt at h ⊢
    obtain ⟨h0, h1, h2, h3, h4, h5, ⟨p, cap, h6, h7, h8⟩, ⟨p', cap', h9, h10, h11⟩⟩ := h
    refine ⟨h0, h1, h2, h3, RdEx.below hb a h4, RdEx.below hb b h5, ⟨p, cap, h6, h7, fun hne => ?_⟩, ⟨p', cap', h9, h10, fun hne => ?_⟩⟩
    · obtain ⟨q, off, h12, h13⟩ := h8 hne
      exact ⟨q, off, h12, RdSts.below hb body h13⟩
    · obtain ⟨q, off, h12, h13⟩ := h11 hne
      exact ⟨q, off, h12, RdSts.below hb els h13⟩
theorem RdSts.below {w w' : World} (hb : Below w.heap.size w w') : ∀ (l : List St) {q off}, RdSts w q off l → RdSts w' q off l
  | [], _, _, _ => by unfold RdSts; trivial
  | x :: xs, q, off, h => by
    unfold RdSts at h ⊢
    obtain ⟨⟨k, t, a0, a1, a2, b0, b1, b2, bo, el, h0, h1, h2, h3, h4, h5, h6, h7, h8, h9, h10⟩, h11⟩ := h
    exact ⟨⟨k, t, a0, a1, a2, b0, b1, b2, bo, el, later hb h0, later hb h1, later hb h2, later hb h3, later hb h4, later hb h5, later hb h6, later hb h7, later hb h8, later hb h9, RdSt.below hb x h10⟩, RdSts.below hb xs h11⟩
end
theorem RdTx.below {w w' : World} (hb : Below w.heap.size w w') {l : List St} {v : Value} (h : RdTx w l v) : RdTx w' l v := by
  obtain ⟨p, cap, h1, h2, h3⟩ := h
  refine ⟨p, cap, h1, h2, fun hne => ?_⟩
  obtain ⟨q, off, h4, h5⟩ := h3 hne
  exact ⟨q, off, h4, h5.below hb l⟩
theorem RdSt.shape {w : World} : ∀ {s : St} {k t a0 a1 a2 b0 b1 b2 bo el}, RdSt w s k t a0 a1 a2 b0 b1 b2 bo el → k = .int .u8 s.kind ∧ t = .int .i64 s.to ∧ RdEx w s.a a0 a1 a2 ∧ RdEx w s.b b0 b1 b2 ∧ RdTx w s.body bo ∧ RdTx w s.els el
  | .mk kind to a b body els, k, t, a0, a1, a2, b0, b1, b2, bo, el, h => by
    unfold RdSt at h
    obtain ⟨h0, h1, -, -, h4, h5, h6, h7⟩ := h
    exact ⟨h0, h1, h4, h5, h6, h7⟩
theorem RdSts.get {w : World} : ∀ (l : List St) {q off}, RdSts w q off l → ∀ n (h : n < l.length), ∃ k t a0 a1 a2 b0 b1 b2 bo el,
    w.cell? ⟨q, off + n * 10, none⟩ = some k ∧ w.cell? ⟨q, off + n * 10 + 1, none⟩ = some t ∧ w.cell? ⟨q, off + n * 10 + 2, none⟩ = some a0 ∧ w.cell? ⟨q, off + n * 10 + 3, none⟩ = some a1 ∧ w.cell? ⟨q, off + n * 10 + 4, none⟩ = some a2 ∧
      w.cell? ⟨q, off + n * 10 + 5, none⟩ = some b0 ∧ w.cell? ⟨q, off + n * 10 + 6, none⟩ = some b1 ∧ w.cell? ⟨q, off + n * 10 + 7, none⟩ = some b2 ∧ w.cell? ⟨q, off + n * 10 + 8, none⟩ = some bo ∧ w.cell? ⟨q, off + n * 10 + 9, none⟩ = some el ∧ RdSt w l[n] k t a0 a1 a2 b0 b1 b2 bo el
  | [], _, _, _, n, hn => by simp at hn
  | x :: xs, q, off, h, 0, hn => by
    unfold RdSts at h
    obtain ⟨hx, -⟩ := h
    simpa using hx
  | x :: xs, q, off, h, n + 1, hn => by
    unfold RdSts at h
    obtain ⟨-, h4⟩ := h
    have hx := RdSts.get xs h4 n (by simpa using hn)
    have e : off + (n + 1) * 10 = off + 10 + n * 10 := by omega
    rw [e]
    exact hx

mutual
def sizeS : St → Nat
  | .mk _ _ _ _ body els => 1 + sizeT body + sizeT els
def sizeT : List St → Nat
  | [] => 0
  | x :: xs => sizeS x + sizeT xs
end
theorem sizeT_get (l : List St) (n : Nat) (h : n < l.length) : sizeS l[n] ≤ sizeT l := by
  induction l generalizing n with
  | nil => simp at h
  | cons x xs ih =>
    cases n with
    | zero => simp [sizeT]
    | succ n => simp only [List.getElem_cons_succ, sizeT]; have := ih n (by simpa using h); omega
theorem sizeS_body (s : St) : sizeT s.body < sizeS s := by cases s; simp only [St.body, sizeS]; omega
theorem sizeS_els (s : St) : sizeT s.els < sizeS s := by cases s; simp only [St.els, sizeS]; omega

mutual
/-- A statement's cost, and what is within. -/
def costS : St → Nat
  | .mk kind _ _ _ body els => 1 + (if kind = 4 then max (costT 0 body) (costT 0 els) else if kind = 5 then 8 * costT 0 body else if kind = 7 then costT 0 body + costT 0 els else 0)
def costT (sum : Nat) : List St → Nat
  | [] => sum
  | x :: xs => costT (min (sum + costS x) 2001) xs
end
mutual
def depthS : St → Nat
  | .mk _ _ _ _ body els => max (if body.isEmpty then 0 else depthT 0 body + 1) (if els.isEmpty then 0 else depthT 0 els + 1)
def depthT (n : Nat) : List St → Nat
  | [] => n
  | x :: xs => depthT (max n (depthS x)) xs
end
theorem costT_le : ∀ (l : List St) (n : Nat), n ≤ 2001 → costT n l ≤ 2001
  | [], n, h => by unfold costT; exact h
  | x :: xs, n, h => by unfold costT; exact costT_le xs _ (by omega)
theorem costT_take (l : List St) : ∀ (n k : Nat) (h : k < l.length), costT n (l.take (k + 1)) = min (costT n (l.take k) + costS l[k]) 2001 := by
  induction l with
  | nil => intro n k h; simp at h
  | cons x xs ih =>
    intro n k h
    cases k with
    | zero => simp [costT]
    | succ k => simp only [List.take_succ_cons, costT, List.getElem_cons_succ]; exact ih _ k (by simpa using h)
theorem depthT_take (l : List St) : ∀ (n k : Nat) (h : k < l.length), depthT n (l.take (k + 1)) = max (depthT n (l.take k)) (depthS l[k]) := by
  induction l with
  | nil => intro n k h; simp at h
  | cons x xs ih =>
    intro n k h
    cases k with
    | zero => simp [depthT]
    | succ k => simp only [List.take_succ_cons, depthT, List.getElem_cons_succ]; exact ih _ k (by simpa using h)
end Go.Proofs.Ytaklfjjkeebheaa
/-
  Packs, plainly: what the reader of a body reads, what the writer writes; what is read without a fault is written so. Nothing of the program.
-/
namespace Go.Proofs.Ytaklfjjkeebheaa
set_option linter.unusedVariables false
set_option linter.unusedVariables false
def exZ : Ex := .mk 0 0 []
def failC (r : Rdr) (place c : Nat) : Rdr := if r.err ≠ 0 then r else { r with at_ := place, err := c }
def numL (r : Rdr) (least most : Nat) : Nat × Rdr := if (numR r most).2.err = 0 ∧ (numR r most).1 < least then (0, failC (numR r most).2 r.at_ 20) else numR r most
/-- An expression, at most d deep. -/
def exprL : Nat → Rdr → Ex × Rdr
  | 0, r => (exZ, failC (numL r 1 8).2 r.at_ 40)
  | d + 1, r =>
    if (numL r 1 8).2.err ≠ 0 then (exZ, (numL r 1 8).2)
    else if (numL r 1 8).1 = 1 then (.mk 1 (zagZ (numR (numL r 1 8).2 maxU).1) [], (numR (numL r 1 8).2 maxU).2)
    else if (numL r 1 8).1 = 2 then (.mk 2 ((numL (numL r 1 8).2 0 7).1 : Nat) [], (numL (numL r 1 8).2 0 7).2)
    else if (numL r 1 8).1 = 3 then (.mk 3 ((numL (numL r 1 8).2 0 5).1 : Nat) [], (numL (numL r 1 8).2 0 5).2)
    else (.mk ((numL r 1 8).1 : Nat) 0 [(exprL d (numL r 1 8).2).1, (exprL d (exprL d (numL r 1 8).2).2).1], (exprL d (exprL d (numL r 1 8).2).2).2)
/-- What statements of a Kind have. -/
def lettersOf (k : Nat) : List Nat := if k = 1 ∨ k = 2 then [116, 97] else if k = 3 then [97, 98] else if k = 4 then [97, 111, 101] else if k = 5 then [97, 111] else if k = 7 then [111, 101] else if k = 8 then [97] else []
def partL (B : Rdr → List St × Rdr) (s : St) (c : Nat) (r : Rdr) : St × Rdr :=
  if c = 116 then (.mk s.kind ((numL r 0 7).1 : Nat) s.a s.b s.body s.els, (numL r 0 7).2)
  else if c = 97 then (.mk s.kind s.to (exprL 6 r).1 s.b s.body s.els, (exprL 6 r).2)
  else if c = 98 then (.mk s.kind s.to s.a (exprL 6 r).1 s.body s.els, (exprL 6 r).2)
  else if c = 111 then (.mk s.kind s.to s.a s.b (B r).1 s.els, (B r).2)
  else if c = 101 then (.mk s.kind s.to s.a s.b s.body (B r).1, (B r).2)
  else (s, r)
def partsL (B : Rdr → List St × Rdr) : List Nat → St → Rdr → St × Rdr
  | [], s, r => (s, r)
  | c :: cs, s, r => partsL B cs (partL B s c r).1 (partL B s c r).2
def stNew (k : Nat) : St := .mk (k : Nat) 0 exZ exZ [] []
def stmtsL (B : Rdr → List St × Rdr) : Nat → List St → Rdr → List St × Rdr
  | 0, out, r => (out, r)
  | k + 1, out, r =>
    if (numL r 1 8).2.err ≠ 0 then ([], (numL r 1 8).2)
    else stmtsL B k (out ++ [(partsL B (lettersOf (numL r 1 8).1) (stNew (numL r 1 8).1) (numL r 1 8).2).1]) (partsL B (lettersOf (numL r 1 8).1) (stNew (numL r 1 8).1) (numL r 1 8).2).2
/-- A block, at most d deep. -/
def blockL : Nat → Rdr → List St × Rdr
  | 0, r => ([], if 0 < (numL r 0 40).1 then failC (numL r 0 40).2 r.at_ 40 else (numL r 0 40).2)
  | d + 1, r => stmtsL (blockL d) (numL r 0 40).1 [] (numL r 0 40).2
def txsL : Nat → List (List St) → Rdr → List (List St) × Rdr
  | 0, out, r => (out, r)
  | k + 1, out, r => txsL k (out ++ [(blockL 6 r).1]) (blockL 6 r).2
def thsL : Nat → List (List (List St)) → Rdr → List (List (List St)) × Rdr
  | 0, out, r => (out, r)
  | k + 1, out, r => thsL k (out ++ [(txsL (numL r 0 6).1 [] (numL r 0 6).2).1]) (txsL (numL r 0 6).1 [] (numL r 0 6).2).2
def initL : Nat → List Int → Rdr → List Int × Rdr
  | 0, out, r => (out, r)
  | k + 1, out, r => initL k (out ++ [zagZ (numR r maxU).1]) (numR r maxU).2
structure Su where
  st : Int
  ck : Int
  tr : Int
  init : List Int
  ths : List (List (List St))
/-- What stands behind the first values. -/
def restL (l : List Int) (r : Rdr) : Su × Rdr :=
  let a := numL r 1 l.length
  let b := numL a.2 0 1099511627776
  let c := numL b.2 1 1000
  let d := numL c.2 0 6
  (⟨(a.1 : Nat), (b.1 : Nat), (c.1 : Nat), l, (thsL d.1 [] d.2).1⟩, (thsL d.1 [] d.2).2)
def setupL (r : Rdr) : Su × Rdr :=
  let i := initL (numL r 1 32).1 [] (numL r 1 32).2
  if i.2.err ≠ 0 then (⟨0, 0, 0, i.1, []⟩, i.2) else restL i.1 i.2
/-- What is written. -/
def u64 (n : Int) : Nat := (n % 18446744073709551616).toNat
mutual
def exprB : Ex → List Nat
  | .mk op n args => putN (u64 op) ++ (if op = 1 then putN (zigZ n) else if op = 2 ∨ op = 3 then putN (u64 n) else exprsB args)
def exprsB : List Ex → List Nat
  | [] => []
  | x :: xs => exprB x ++ exprsB xs
end
def letB (to : Int) (a b : Ex) (bo el : List Nat) (c : Nat) : List Nat :=
  if c = 116 then putN (u64 to) else if c = 97 then exprB a else if c = 98 then exprB b else if c = 111 then bo else if c = 101 then el else []
mutual
def stB : St → List Nat
  | .mk kind to a b body els => putN (u64 kind) ++ (lettersOf kind.toNat).flatMap (letB to a b (putN body.length ++ stsB body) (putN els.length ++ stsB els))
def stsB : List St → List Nat
  | [] => []
  | x :: xs => stB x ++ stsB xs
end
def blockB (l : List St) : List Nat := putN l.length ++ stsB l
def thB (l : List (List St)) : List Nat := putN l.length ++ l.flatMap blockB
def setupB (x : Su) : List Nat :=
  putN x.init.length ++ x.init.flatMap (fun n => putN (zigZ n)) ++ (putN (u64 x.st) ++ putN (u64 x.ck) ++ putN (u64 x.tr) ++ putN x.ths.length) ++ x.ths.flatMap thB
/-- A reader has gone over bytes, and nothing was wrong. -/
structure Went (r r' : Rdr) (bs : List Nat) : Prop where
  s : r'.s = r.s
  e0 : r.err = 0
  e1 : r'.err = 0
  len : r'.at_ ≤ r.s.length
  tk : r.s.take r'.at_ = r.s.take r.at_ ++ bs
theorem Went.trans {a b c : Rdr} {x y : List Nat} (h : Went a b x) (g : Went b c y) : Went a c (x ++ y) where
  s := g.s.trans h.s
  e0 := h.e0
  e1 := g.e1
  len := by have := g.len; rwa [h.s] at this
  tk := by have := g.tk; rw [h.s, h.tk] at this; rw [this, List.append_assoc]
theorem Went.refl (r : Rdr) (h : r.err = 0) (hl : r.at_ ≤ r.s.length) : Went r r [] := ⟨rfl, h, h, hl, by simp⟩
/-- A reader over bytes, at a place. -/
def RdB (r : Rdr) : Prop := (∀ c ∈ r.s, c < 256) ∧ r.at_ ≤ r.s.length
theorem Went.rdb {r r' : Rdr} {bs : List Nat} (h : Went r r' bs) (hr : RdB r) : RdB r' := ⟨by rw [h.s]; exact hr.1, by rw [h.s]; exact h.len⟩
/-- What a reading keeps: the bytes, a place within them, one of the errors. -/
structure Kept (r r' : Rdr) : Prop where
  s : r'.s = r.s
  at_ : r'.at_ ≤ r.s.length
  err : r'.err = r.err ∨ r'.err ∈ [8, 11, 20, 40]
  stop : r.err ≠ 0 → r' = r
theorem Kept.rdb {r r' : Rdr} (h : Kept r r') (hr : RdB r) : RdB r' := ⟨by rw [h.s]; exact hr.1, by rw [h.s]; exact h.at_⟩
theorem Kept.refl {r : Rdr} (hr : RdB r) : Kept r r := ⟨rfl, hr.2, .inl rfl, fun _ => rfl⟩
theorem Kept.trans {a b c : Rdr} (h : Kept a b) (g : Kept b c) : Kept a c where
  s := g.s.trans h.s
  at_ := by rw [← h.s]; exact g.at_
  err := by
    rcases g.err with e | e
    · rw [e]; exact h.err
    · exact .inr e
  stop := fun he => by
    have h1 := h.stop he
    subst h1
    exact g.stop he
theorem getF_codes : ∀ (k i a u : Nat) (l : List Nat) {m s e : Nat}, getF k i a u l = (m, s, e) → e = 0 ∨ e = 8 ∨ e = 11 ∨ e = 20
  | 0, _, _, _, _, m, s, e, h => by simp [getF] at h; omega
  | _ + 1, _, _, _, [], m, s, e, h => by simp [getF] at h; omega
  | k + 1, i, a, u, b :: bs, m, s, e, h => by
    unfold getF at h
    split at h
    · simp at h; omega
    split at h
    · split at h
      · simp at h; omega
      · simp at h; omega
    · exact getF_codes k _ _ _ bs h
theorem numR_kept {r : Rdr} (hr : RdB r) (most : Nat) : Kept r (numR r most).2 := by
  obtain ⟨rs, ra, re⟩ := r
  obtain ⟨h1, h2⟩ := hr
  dsimp only at h1 h2
  unfold numR
  dsimp only
  by_cases he : re = 0
  · subst he
    rw [if_neg (by omega)]
    rcases hg : getN (rs.drop ra) with ⟨n, size, er⟩
    dsimp only
    by_cases h0 : er = 0
    · subst h0
      have := (put_get (fun c hc => h1 c (List.mem_of_mem_drop hc)) hg).2.2.2
      rw [List.length_drop] at this
      rw [if_neg (by omega)]
      split
      · exact ⟨rfl, h2, .inr (by simp), fun h => absurd rfl h⟩
      · exact ⟨rfl, by dsimp only; omega, .inl rfl, fun h => absurd rfl h⟩
    · rw [if_pos h0]
      have := getF_codes _ _ _ _ _ hg
      exact ⟨rfl, h2, .inr (by simp; omega), fun h => absurd rfl h⟩
  · rw [if_pos he]
    exact ⟨rfl, h2, .inl rfl, fun _ => rfl⟩
theorem numR_mono {r : Rdr} (hr : RdB r) (most : Nat) : r.at_ ≤ (numR r most).2.at_ := by
  obtain ⟨rs, ra, re⟩ := r
  unfold numR
  dsimp only
  split
  · exact Nat.le_refl _
  rcases hg : getN (rs.drop ra) with ⟨n, size, er⟩
  dsimp only
  split
  · exact Nat.le_refl _
  split
  · exact Nat.le_refl _
  · exact Nat.le_add_right _ _
theorem numR_zero {r : Rdr} {most : Nat} (h : (numR r most).2.err ≠ 0) : (numR r most).1 = 0 := by
  unfold numR at h ⊢
  split
  · rfl
  rename_i he
  rw [if_neg he] at h
  rcases hg : getN (r.s.drop r.at_) with ⟨n, size, er⟩
  rw [hg] at h
  dsimp only at h ⊢
  split
  · rfl
  rename_i h1
  rw [if_neg h1] at h
  split
  · rfl
  rename_i h2
  rw [if_neg h2] at h
  dsimp only at h
  omega
theorem numR_le' (r : Rdr) (most : Nat) : (numR r most).1 ≤ most := by
  unfold numR
  split
  · exact Nat.zero_le _
  · split
    split
    · exact Nat.zero_le _
    · split
      · exact Nat.zero_le _
      · omega
theorem numR_went {r : Rdr} (hr : RdB r) {most : Nat} (h : (numR r most).2.err = 0) : Went r (numR r most).2 (putN (numR r most).1) := by
  obtain ⟨rs, ra, re⟩ := r
  obtain ⟨h1, h2⟩ := hr
  dsimp only at h1 h2
  unfold numR at h ⊢
  dsimp only at h ⊢
  by_cases he : re = 0
  · subst he
    rw [if_neg (by omega)] at h ⊢
    rcases hg : getN (rs.drop ra) with ⟨n, size, er⟩
    rw [hg] at h
    dsimp only at h ⊢
    by_cases h0 : er = 0
    · subst h0
      obtain ⟨p1, -, -, p4, -⟩ := put_get (fun c hc => h1 c (List.mem_of_mem_drop hc)) hg
      rw [List.length_drop] at p4
      rw [if_neg (by omega)] at h ⊢
      split at h
      · cases h
      · rename_i hm
        rw [if_neg hm]
        refine ⟨rfl, rfl, rfl, by dsimp only; omega, ?_⟩
        dsimp only
        rw [← p1, List.take_add]
    · rw [if_pos h0] at h; exact absurd h h0
  · rw [if_pos he] at h; exact absurd h he
theorem failC_kept {r r' : Rdr} (h : Kept r r') {p c : Nat} (hp : p ≤ r.s.length) (hc : c ∈ [8, 11, 20, 40]) : Kept r (failC r' p c) := by
  unfold failC
  split
  · exact h
  · rename_i he
    refine ⟨h.s, hp, .inr hc, fun h0 => ?_⟩
    have := h.stop h0
    subst this
    omega
theorem failC_err {r : Rdr} {p c : Nat} (hc : c ≠ 0) : (failC r p c).err ≠ 0 := by
  unfold failC
  split
  · assumption
  · exact hc
theorem numL_kept {r : Rdr} (hr : RdB r) (least most : Nat) : Kept r (numL r least most).2 := by
  unfold numL
  split
  · exact failC_kept (numR_kept hr most) hr.2 (by simp)
  · exact numR_kept hr most
theorem numL_zero {r : Rdr} {least most : Nat} (h : (numL r least most).2.err ≠ 0) : (numL r least most).1 = 0 := by
  unfold numL at h ⊢
  split
  · rfl
  · rename_i hh
    rw [if_neg hh] at h
    exact numR_zero h
theorem numL_le (r : Rdr) (least most : Nat) : (numL r least most).1 ≤ most := by
  unfold numL
  split
  · exact Nat.zero_le _
  · exact numR_le' r most
theorem numL_went {r : Rdr} (hr : RdB r) {least most : Nat} (h : (numL r least most).2.err = 0) : Went r (numL r least most).2 (putN (numL r least most).1) ∧ least ≤ (numL r least most).1 := by
  unfold numL at h ⊢
  split
  · rename_i hh
    rw [if_pos hh] at h
    exact absurd h (failC_err (by omega))
  · rename_i hh
    rw [if_neg hh] at h
    exact ⟨numR_went hr h, by omega⟩
theorem u64_nat {n : Nat} (h : n < 18446744073709551616) : u64 (n : Nat) = n := by unfold u64; omega
theorem stop_err {r r' : Rdr} (h : Kept r r') (he : r'.err = 0) : r.err = 0 := by
  rcases Nat.eq_zero_or_pos r.err with h0 | h0
  · exact h0
  · have := h.stop (by omega)
    subst this
    exact he
theorem exprL_kept : ∀ (d : Nat) {r : Rdr}, RdB r → Kept r (exprL d r).2
  | 0, r, hr => failC_kept (numL_kept hr 1 8) hr.2 (by simp)
  | d + 1, r, hr => by
    have h1 := numL_kept hr 1 8
    have hr1 := h1.rdb hr
    unfold exprL
    split
    · exact h1
    split
    · exact h1.trans (numR_kept hr1 _)
    split
    · exact h1.trans (numL_kept hr1 _ _)
    split
    · exact h1.trans (numL_kept hr1 _ _)
    · have h2 := exprL_kept d hr1
      exact h1.trans (h2.trans (exprL_kept d (h2.rdb hr1)))
theorem exprL_went : ∀ (d : Nat) {r : Rdr}, RdB r → (exprL d r).2.err = 0 → Went r (exprL d r).2 (exprB (exprL d r).1)
  | 0, r, hr, h => absurd h (failC_err (by omega))
  | d + 1, r, hr, h => by
    have h1 := numL_kept hr 1 8
    have hr1 := h1.rdb hr
    have hle := numL_le r 1 8
    unfold exprL at h ⊢
    split
    · rename_i c0; rw [if_pos c0] at h; exact absurd h c0
    rename_i c0
    obtain ⟨w1, hl1⟩ := numL_went hr (least := 1) (most := 8) (by omega)
    rw [if_neg c0] at h
    split
    · rename_i c1
      rw [if_pos c1] at h
      have := w1.trans (numR_went hr1 h)
      rw [c1] at this
      simpa only [exprB, if_true, zig_zag, show u64 1 = 1 by decide] using this
    rename_i c1
    rw [if_neg c1] at h
    split
    · rename_i c2
      rw [if_pos c2] at h
      have hw := (numL_went hr1 h).1
      have hl := numL_le (numL r 1 8).2 0 7
      have := w1.trans hw
      rw [c2] at this
      simp only [exprB]
      rw [if_neg (by omega), if_pos (by simp), u64_nat (by omega)]
      exact this
    rename_i c2
    rw [if_neg c2] at h
    split
    · rename_i c3
      rw [if_pos c3] at h
      have hw := (numL_went hr1 h).1
      have hl := numL_le (numL r 1 8).2 0 5
      have := w1.trans hw
      rw [c3] at this
      simp only [exprB]
      rw [if_neg (by omega), if_pos (by simp), u64_nat (by omega)]
      exact this
    · rename_i c3
      rw [if_neg c3] at h
      have k2 := exprL_kept d hr1
      have hr2 := k2.rdb hr1
      have w3 := exprL_went d hr2 h
      have w2 := exprL_went d hr1 w3.e0
      have := w1.trans (w2.trans w3)
      simp only [exprB, exprsB]
      rw [if_neg (by omega), if_neg (by omega), u64_nat (by omega), List.append_nil]
      exact this
end Go.Proofs.Ytaklfjjkeebheaa
/-
  Packs, plainly: blocks and setups; what is read without a fault is written so. Nothing of the program.
-/
namespace Go.Proofs.Ytaklfjjkeebheaa
set_option linter.unusedVariables false
set_option linter.unusedVariables false
def letOf (s : St) (c : Nat) : List Nat := letB s.to s.a s.b (blockB s.body) (blockB s.els) c
theorem stB_is (s : St) : stB s = putN (u64 s.kind) ++ (lettersOf s.kind.toNat).flatMap (letOf s) := by cases s; rfl
/-- What the reading of a block keeps, and is. -/
structure BOk (B : Rdr → List St × Rdr) : Prop where
  kept : ∀ r, RdB r → Kept r (B r).2
  went : ∀ r, RdB r → (B r).2.err = 0 → Went r (B r).2 (blockB (B r).1)
theorem partL_kept {B : Rdr → List St × Rdr} (hB : BOk B) (s : St) (c : Nat) {r : Rdr} (hr : RdB r) : Kept r (partL B s c r).2 := by
  unfold partL
  split
  · exact numL_kept hr _ _
  split
  · exact exprL_kept 6 hr
  split
  · exact exprL_kept 6 hr
  split
  · exact hB.kept r hr
  split
  · exact hB.kept r hr
  · exact Kept.refl hr
theorem partL_went {B : Rdr → List St × Rdr} (hB : BOk B) (s : St) (c : Nat) {r : Rdr} (hr : RdB r) (h : (partL B s c r).2.err = 0) : Went r (partL B s c r).2 (letOf (partL B s c r).1 c) := by
  unfold partL at h ⊢
  split
  · rename_i c1
    rw [if_pos c1] at h
    have hw := (numL_went hr h).1
    have hl := numL_le r 0 7
    simp only [letOf, letB, St.to, c1, if_true]
    rw [u64_nat (by omega)]; exact hw
  rename_i c1
  rw [if_neg c1] at h
  split
  · rename_i c2
    rw [if_pos c2] at h
    have hw := exprL_went 6 hr h
    simp only [letOf, letB, St.a, c2, if_true]
    exact hw
  rename_i c2
  rw [if_neg c2] at h
  split
  · rename_i c3
    rw [if_pos c3] at h
    have hw := exprL_went 6 hr h
    simp only [letOf, letB, St.b, c3, if_true]
    exact hw
  rename_i c3
  rw [if_neg c3] at h
  split
  · rename_i c4
    rw [if_pos c4] at h
    have hw := hB.went r hr h
    simp only [letOf, letB, St.body, c4, if_true]
    exact hw
  rename_i c4
  rw [if_neg c4] at h
  split
  · rename_i c5
    rw [if_pos c5] at h
    have hw := hB.went r hr h
    simp only [letOf, letB, St.els, c5, if_true]
    exact hw
  · rename_i c5
    rw [if_neg c5] at h
    simp only [letOf, letB, if_neg c1, if_neg c2, if_neg c3, if_neg c4, if_neg c5]
    exact Went.refl r h hr.2
theorem partL_other {B : Rdr → List St × Rdr} (s : St) {c c' : Nat} (r : Rdr) (h : c ≠ c') : letOf (partL B s c r).1 c' = letOf s c' := by
  unfold partL
  repeat' split
  all_goals first
    | rfl
    | (simp only [letOf, letB, St.to, St.a, St.b, St.body, St.els]
       repeat' split
       all_goals first | rfl | omega)
theorem partL_kind {B : Rdr → List St × Rdr} (s : St) (c : Nat) (r : Rdr) : (partL B s c r).1.kind = s.kind := by
  unfold partL
  repeat' split
  all_goals rfl
theorem partsL_kept {B : Rdr → List St × Rdr} (hB : BOk B) : ∀ (cs : List Nat) (s : St) {r : Rdr}, RdB r → Kept r (partsL B cs s r).2
  | [], s, r, hr => Kept.refl hr
  | c :: cs, s, r, hr => (partL_kept hB s c hr).trans (partsL_kept hB cs _ ((partL_kept hB s c hr).rdb hr))
theorem partsL_other {B : Rdr → List St × Rdr} : ∀ (cs : List Nat) (s : St) (r : Rdr) {c' : Nat}, c' ∉ cs → letOf (partsL B cs s r).1 c' = letOf s c'
  | [], _, _, _, _ => rfl
  | c :: cs, s, r, c', h => by
    rw [partsL, partsL_other cs _ _ (fun hm => h (List.mem_cons_of_mem _ hm)), partL_other s r (fun e => h (by simp [e]))]
theorem partsL_kind {B : Rdr → List St × Rdr} : ∀ (cs : List Nat) (s : St) (r : Rdr), (partsL B cs s r).1.kind = s.kind
  | [], _, _ => rfl
  | c :: cs, s, r => by rw [partsL, partsL_kind cs, partL_kind]
theorem partsL_went {B : Rdr → List St × Rdr} (hB : BOk B) : ∀ (cs : List Nat) (s : St) {r : Rdr}, cs.Nodup → RdB r → (partsL B cs s r).2.err = 0 → Went r (partsL B cs s r).2 (cs.flatMap (letOf (partsL B cs s r).1))
  | [], s, r, hn, hr, h => Went.refl r h hr.2
  | c :: cs, s, r, hn, hr, h => by
    have k1 := partL_kept hB s c hr
    have hr1 := k1.rdb hr
    rw [partsL] at h ⊢
    have w2 := partsL_went hB cs _ (List.nodup_cons.1 hn).2 hr1 h
    have w1 := partL_went hB s c hr w2.e0
    rw [List.flatMap_cons, partsL_other cs _ _ (List.nodup_cons.1 hn).1]
    exact w1.trans w2
theorem letters_nodup (k : Nat) : (lettersOf k).Nodup := by
  unfold lettersOf
  repeat' split
  all_goals decide
theorem stmtsL_kept {B : Rdr → List St × Rdr} (hB : BOk B) : ∀ (k : Nat) (out : List St) {r : Rdr}, RdB r → Kept r (stmtsL B k out r).2
  | 0, out, r, hr => Kept.refl hr
  | k + 1, out, r, hr => by
    have h1 := numL_kept hr 1 8
    have hr1 := h1.rdb hr
    unfold stmtsL
    split
    · exact h1
    · have h2 := partsL_kept hB (lettersOf (numL r 1 8).1) (stNew (numL r 1 8).1) hr1
      exact h1.trans (h2.trans (stmtsL_kept hB k _ (h2.rdb hr1)))
theorem stmtsL_went {B : Rdr → List St × Rdr} (hB : BOk B) : ∀ (k : Nat) (out : List St) {r : Rdr}, RdB r → (stmtsL B k out r).2.err = 0 → ∃ l, l.length = k ∧ (stmtsL B k out r).1 = out ++ l ∧ Went r (stmtsL B k out r).2 (stsB l)
  | 0, out, r, hr, h => ⟨[], rfl, by simp [stmtsL], Went.refl r h hr.2⟩
  | k + 1, out, r, hr, h => by
    have h1 := numL_kept hr 1 8
    have hr1 := h1.rdb hr
    have hle := numL_le r 1 8
    unfold stmtsL at h ⊢
    split
    · rename_i c0
      rw [if_pos c0] at h
      exact absurd h c0
    · rename_i c0
      rw [if_neg c0] at h
      have h2 := partsL_kept hB (lettersOf (numL r 1 8).1) (stNew (numL r 1 8).1) hr1
      obtain ⟨l, e1, e2, w3⟩ := stmtsL_went hB k _ (h2.rdb hr1) h
      have w1 := (numL_went hr (least := 1) (most := 8) (by omega)).1
      have w2 := partsL_went hB _ _ (letters_nodup _) hr1 w3.e0
      refine ⟨(partsL B (lettersOf (numL r 1 8).1) (stNew (numL r 1 8).1) (numL r 1 8).2).1 :: l, by simp [e1], by rw [e2]; simp, ?_⟩
      have hk : (partsL B (lettersOf (numL r 1 8).1) (stNew (numL r 1 8).1) (numL r 1 8).2).1.kind = ((numL r 1 8).1 : Nat) := partsL_kind _ _ _
      simp only [stsB, stB_is]
      rw [hk, u64_nat (by omega), Int.toNat_natCast, List.append_assoc]
      exact w1.trans (w2.trans w3)
theorem blockL_ok : ∀ d, BOk (blockL d)
  | 0 => by
    refine ⟨fun r hr => ?_, fun r hr h => ?_⟩
    · unfold blockL
      dsimp only
      split
      · exact failC_kept (numL_kept hr 0 40) hr.2 (by simp)
      · exact numL_kept hr 0 40
    · unfold blockL at h ⊢
      dsimp only at h ⊢
      split
      · rename_i c0
        rw [if_pos c0] at h
        exact absurd h (failC_err (by omega))
      · rename_i c0
        rw [if_neg c0] at h
        have := (numL_went hr h).1
        rw [show (numL r 0 40).1 = 0 by omega] at this
        simpa [blockB, stsB] using this
  | d + 1 => by
    refine ⟨fun r hr => ?_, fun r hr h => ?_⟩
    · unfold blockL
      exact (numL_kept hr 0 40).trans (stmtsL_kept (blockL_ok d) _ _ ((numL_kept hr 0 40).rdb hr))
    · unfold blockL at h ⊢
      obtain ⟨l, e1, e2, w2⟩ := stmtsL_went (blockL_ok d) _ _ ((numL_kept hr 0 40).rdb hr) h
      have w1 := (numL_went hr w2.e0).1
      rw [e2]
      simp only [blockB, List.nil_append]
      rw [e1]
      exact w1.trans w2
theorem txsL_kept : ∀ (k : Nat) (out : List (List St)) {r : Rdr}, RdB r → Kept r (txsL k out r).2
  | 0, out, r, hr => Kept.refl hr
  | k + 1, out, r, hr => by
    have h1 := (blockL_ok 6).kept r hr
    exact h1.trans (txsL_kept k _ (h1.rdb hr))
theorem txsL_went : ∀ (k : Nat) (out : List (List St)) {r : Rdr}, RdB r → (txsL k out r).2.err = 0 → ∃ l, l.length = k ∧ (txsL k out r).1 = out ++ l ∧ Went r (txsL k out r).2 (l.flatMap blockB)
  | 0, out, r, hr, h => ⟨[], rfl, by simp [txsL], Went.refl r h hr.2⟩
  | k + 1, out, r, hr, h => by
    have h1 := (blockL_ok 6).kept r hr
    rw [txsL] at h ⊢
    obtain ⟨l, e1, e2, w2⟩ := txsL_went k _ (h1.rdb hr) h
    have w1 := (blockL_ok 6).went r hr w2.e0
    refine ⟨(blockL 6 r).1 :: l, by simp [e1], by rw [e2]; simp, ?_⟩
    rw [List.flatMap_cons]
    exact w1.trans w2
theorem thsL_kept : ∀ (k : Nat) (out : List (List (List St))) {r : Rdr}, RdB r → Kept r (thsL k out r).2
  | 0, out, r, hr => Kept.refl hr
  | k + 1, out, r, hr => by
    have h1 := numL_kept hr 0 6
    have h2 := txsL_kept (numL r 0 6).1 [] (h1.rdb hr)
    exact h1.trans (h2.trans (thsL_kept k _ (h2.rdb (h1.rdb hr))))
theorem thsL_went : ∀ (k : Nat) (out : List (List (List St))) {r : Rdr}, RdB r → (thsL k out r).2.err = 0 → ∃ l, l.length = k ∧ (thsL k out r).1 = out ++ l ∧ Went r (thsL k out r).2 (l.flatMap thB)
  | 0, out, r, hr, h => ⟨[], rfl, by simp [thsL], Went.refl r h hr.2⟩
  | k + 1, out, r, hr, h => by
    rw [thsL] at h ⊢
    have h1 := numL_kept hr 0 6
    have g1 := fun h => (numL_went (least := 0) (most := 6) hr h).1
    generalize numL r 0 6 = q at *
    have h2 := txsL_kept q.1 [] (h1.rdb hr)
    have g2 := txsL_went q.1 [] (h1.rdb hr)
    generalize txsL q.1 [] q.2 = u at *
    obtain ⟨l, e1, e2, w3⟩ := thsL_went k _ (h2.rdb (h1.rdb hr)) h
    obtain ⟨t, f1, f2, w2⟩ := g2 w3.e0
    have w1 := g1 w2.e0
    rw [List.nil_append] at f2
    have w := (w1.trans w2).trans w3
    refine ⟨u.1 :: l, by simp [e1], by rw [e2]; simp, ?_⟩
    have hu : thB u.1 = putN q.1 ++ t.flatMap blockB := by rw [f2, thB, f1]
    rw [List.flatMap_cons, hu]
    exact w
theorem initL_kept : ∀ (k : Nat) (out : List Int) {r : Rdr}, RdB r → Kept r (initL k out r).2
  | 0, out, r, hr => Kept.refl hr
  | k + 1, out, r, hr => by
    have h1 := numR_kept hr maxU
    exact h1.trans (initL_kept k _ (h1.rdb hr))
theorem initL_len : ∀ (k : Nat) (out : List Int) (r : Rdr), (initL k out r).1.length = out.length + k
  | 0, out, r => rfl
  | k + 1, out, r => by rw [initL, initL_len k]; simp; omega
theorem initL_went : ∀ (k : Nat) (out : List Int) {r : Rdr}, RdB r → (initL k out r).2.err = 0 → ∃ l, l.length = k ∧ (initL k out r).1 = out ++ l ∧ Went r (initL k out r).2 (l.flatMap (fun n => putN (zigZ n)))
  | 0, out, r, hr, h => ⟨[], rfl, by simp [initL], Went.refl r h hr.2⟩
  | k + 1, out, r, hr, h => by
    have h1 := numR_kept hr maxU
    rw [initL] at h ⊢
    obtain ⟨l, e1, e2, w2⟩ := initL_went k _ (h1.rdb hr) h
    have w1 := numR_went hr w2.e0
    refine ⟨zagZ (numR r maxU).1 :: l, by simp [e1], by rw [e2]; simp, ?_⟩
    rw [List.flatMap_cons, zig_zag]
    exact w1.trans w2
theorem restL_kept (l : List Int) {r : Rdr} (hr : RdB r) : Kept r (restL l r).2 := by
  unfold restL
  dsimp only
  have k3 := numL_kept hr 1 l.length
  generalize numL r 1 l.length = a at *
  have k4 := numL_kept (k3.rdb hr) 0 1099511627776
  generalize numL a.2 0 1099511627776 = b at *
  have k5 := numL_kept ((k3.trans k4).rdb hr) 1 1000
  generalize numL b.2 1 1000 = c at *
  have k6 := numL_kept (((k3.trans k4).trans k5).rdb hr) 0 6
  generalize numL c.2 0 6 = d at *
  have k7 := thsL_kept d.1 [] ((((k3.trans k4).trans k5).trans k6).rdb hr)
  exact (((k3.trans k4).trans k5).trans k6).trans k7
theorem setupL_kept {r : Rdr} (hr : RdB r) : Kept r (setupL r).2 := by
  have k1 := numL_kept hr 1 32
  have k2 := initL_kept (numL r 1 32).1 [] (k1.rdb hr)
  unfold setupL
  dsimp only
  split
  · exact k1.trans k2
  · exact (k1.trans k2).trans (restL_kept _ ((k1.trans k2).rdb hr))
theorem restL_went {l : List Int} {r : Rdr} (hl : l.length ≤ 32) (hr : RdB r) (h : (restL l r).2.err = 0) : Went r (restL l r).2 (putN (u64 (restL l r).1.st) ++ putN (u64 (restL l r).1.ck) ++ putN (u64 (restL l r).1.tr) ++ putN (restL l r).1.ths.length ++ (restL l r).1.ths.flatMap thB) ∧ (restL l r).1.init = l := by
  unfold restL at h ⊢
  dsimp only at h ⊢
  have l3 := numL_le r 1 l.length
  have k3 := numL_kept hr 1 l.length
  have g3 := fun h => (numL_went (least := 1) (most := l.length) hr h).1
  generalize numL r 1 l.length = a at *
  have hra := k3.rdb hr
  have l4 := numL_le a.2 0 1099511627776
  have k4 := numL_kept hra 0 1099511627776
  have g4 := fun h => (numL_went (least := 0) (most := 1099511627776) hra h).1
  generalize numL a.2 0 1099511627776 = b at *
  have hrb := k4.rdb hra
  have l5 := numL_le b.2 1 1000
  have k5 := numL_kept hrb 1 1000
  have g5 := fun h => (numL_went (least := 1) (most := 1000) hrb h).1
  generalize numL b.2 1 1000 = c at *
  have hrc := k5.rdb hrb
  have k6 := numL_kept hrc 0 6
  have g6 := fun h => (numL_went (least := 0) (most := 6) hrc h).1
  generalize numL c.2 0 6 = d at *
  obtain ⟨t, f1, f2, w7⟩ := thsL_went d.1 [] (k6.rdb hrc) h
  have w6 := g6 w7.e0
  have w5 := g5 w6.e0
  have w4 := g4 w5.e0
  have w3 := g3 w4.e0
  rw [List.nil_append] at f2
  have hw := (((w3.trans w4).trans w5).trans w6).trans w7
  rw [u64_nat (by omega), u64_nat (by omega), u64_nat (by omega), f2, f1]
  exact ⟨hw, rfl⟩
theorem setupL_went {r : Rdr} (hr : RdB r) (h : (setupL r).2.err = 0) : Went r (setupL r).2 (setupB (setupL r).1) := by
  unfold setupL at h ⊢
  dsimp only at h ⊢
  have l1 := numL_le r 1 32
  have k1 := numL_kept hr 1 32
  have g1 := fun h => (numL_went (least := 1) (most := 32) hr h).1
  generalize numL r 1 32 = a at *
  have hra := k1.rdb hr
  have k2 := initL_kept a.1 [] hra
  have hlen := initL_len a.1 [] a.2
  have g2 := initL_went a.1 [] hra
  generalize initL a.1 [] a.2 = i at *
  rw [List.length_nil, Nat.zero_add] at hlen
  split
  · rename_i c0
    rw [if_pos c0] at h
    exact absurd h c0
  · rename_i c0
    rw [if_neg c0] at h
    obtain ⟨w3, hin⟩ := restL_went (by omega) (k2.rdb hra) h
    obtain ⟨l, e1, e2, w2⟩ := g2 w3.e0
    have w1 := g1 w2.e0
    rw [List.nil_append] at e2
    have hw := (w1.trans w2).trans w3
    unfold setupB
    rw [hin, e2, ← List.append_assoc]
    rw [← e1, ← e2] at hw
    rw [e2] at hw
    simpa only [List.append_assoc] using hw
end Go.Proofs.Ytaklfjjkeebheaa
