import Derived.Test.YtnblhodhkifeeaaGreatDoorTbGZ
import Derived.WalkLawsBesides
import Derived.Deep.DeepCutAuto
import Derived.Deep.CutBlock
import Derived.Laws.MakeOwn
namespace Go.Proofs.YtnblhodhkifeeaaGreatDoor.Bt
set_option linter.unusedVariables false
set_option linter.unusedSimpArgs false
open Go Go.RowKit
theorem bitN_xor (a b : Nat) : bitN (a ^^^ b) = bitN a ^^^ bitN b := by
 have h1 : (a ^^^ b) / 2 = (a / 2) ^^^ (b / 2) := Nat.xor_div_two
 have h2 : (a ^^^ b) % 2 = (a + b) % 2 := by
  have := Nat.xor_mod_two_pow (a := a) (b := b) (n := 1)
  simp only [Nat.pow_one] at this
  rw [this]
  rcases Nat.mod_two_eq_zero_or_one a with ha | ha <;> rcases Nat.mod_two_eq_zero_or_one b with hb | hb <;> rw [ha, hb] <;> simp only [Nat.xor_self, Nat.zero_xor, Nat.xor_zero] <;> omega
 unfold bitN
 rw [h1, h2]
 rcases Nat.mod_two_eq_zero_or_one a with ha | ha <;> rcases Nat.mod_two_eq_zero_or_one b with hb | hb
 ·have : ¬ (a + b) % 2 = 1 := by omega
  simp [ha, hb, this]
 ·have : (a + b) % 2 = 1 := by omega
  simp [ha, hb, this, Nat.xor_assoc]
 ·have : (a + b) % 2 = 1 := by omega
  simp only [ha, hb, this, if_true]
  simp only [Nat.zero_ne_one, if_false]
  rw [Nat.xor_assoc, Nat.xor_assoc, Nat.xor_comm 3988292384]
 ·have : ¬ (a + b) % 2 = 1 := by omega
  simp only [ha, hb, this, if_true, if_false]
  rw [Nat.xor_comm (b / 2), Nat.xor_assoc, ← Nat.xor_assoc 3988292384, Nat.xor_self, Nat.zero_xor]
theorem bit8_xor (a b : Nat) : bit8 (a ^^^ b) = bit8 a ^^^ bit8 b := by simp only [bit8, bitN_xor]
theorem bitN_zero {a : Nat} (h : a < 4294967296) (h0 : bitN a = 0) : a = 0 := by
 unfold bitN at h0
 split at h0
 ·have h1 : a / 2 = 3988292384 := by
   have : (a / 2) ^^^ 3988292384 ^^^ 3988292384 = 0 ^^^ 3988292384 := by rw [h0]
   rwa [Nat.xor_assoc, Nat.xor_self, Nat.xor_zero, Nat.zero_xor] at this
  omega
 ·omega
theorem bit8_zero {a : Nat} (h : a < 4294967296) (h0 : bit8 a = 0) : a = 0 := by
 unfold bit8 at h0
 exact bitN_zero h (bitN_zero (bitN_lt h) (bitN_zero (bitN_lt (bitN_lt h)) (bitN_zero (bitN_lt (bitN_lt (bitN_lt h))) (bitN_zero (bitN_lt (bitN_lt (bitN_lt (bitN_lt h)))) (bitN_zero (bitN_lt (bitN_lt (bitN_lt (bitN_lt (bitN_lt h))))) (bitN_zero (bitN_lt (bitN_lt (bitN_lt (bitN_lt (bitN_lt (bitN_lt h)))))) (bitN_zero (bitN_lt (bitN_lt (bitN_lt (bitN_lt (bitN_lt (bitN_lt (bitN_lt h))))))) h0)))))))
theorem bit8_shift (y : Nat) : bit8 (y * 256) = y := by
 have e : ∀ z, bitN (z * 2) = z := fun z => by unfold bitN; rw [if_neg (by omega)]; omega
 have h : bit8 (y * 2 * 2 * 2 * 2 * 2 * 2 * 2 * 2) = y := by unfold bit8; rw [e (y * 2 * 2 * 2 * 2 * 2 * 2 * 2), e (y * 2 * 2 * 2 * 2 * 2 * 2), e (y * 2 * 2 * 2 * 2 * 2), e (y * 2 * 2 * 2 * 2), e (y * 2 * 2 * 2), e (y * 2 * 2), e (y * 2), e y]
 have h2 : y * 256 = y * 2 * 2 * 2 * 2 * 2 * 2 * 2 * 2 := by omega
 rw [h2]; exact h
def xorL : List Nat → List Nat → List Nat
 | a :: as_, b :: bs => (a ^^^ b) :: xorL as_ bs
 | _, _ => []
theorem xor4 (a b c d : Nat) : a ^^^ b ^^^ (c ^^^ d) = a ^^^ c ^^^ (b ^^^ d) := by
 rw [Nat.xor_assoc, Nat.xor_assoc, ← Nat.xor_assoc b, Nat.xor_comm b c, Nat.xor_assoc c]
theorem regN_xor (l : List Nat) : ∀ (m : List Nat) (r s : Nat), l.length = m.length → regN (r ^^^ s) (xorL l m) = regN r l ^^^ regN s m := by
 induction l with
 | nil => intro m r s h; cases m with
  | nil => simp only [xorL, regN_nil]
  | cons b bs => simp at h
 | cons a as_ ih => intro m r s h; cases m with
  | nil => simp at h
  | cons b bs =>
   simp only [xorL, regN_cons]
   rw [xor4, bit8_xor]
   exact ih bs _ _ (by simpa using h)
theorem regN_inj (l : List Nat) : ∀ {r : Nat}, r < 4294967296 → regN r (l.map fun _ => 0) = 0 → r = 0 := by
 induction l with
 | nil => intro r _ h; simpa only [List.map_nil, regN_nil] using h
 | cons c cs ih => intro r h h0; simp only [List.map_cons, regN_cons, Nat.xor_zero] at h0; exact bit8_zero h (ih (bit8_lt h) h0)
theorem bit8_0 : bit8 0 = 0 := by
 have := bit8_shift 0
 simpa using this
theorem regN_zeros (n : Nat) : regN 0 (List.replicate n 0) = 0 := by
 induction n with
 | zero => rw [List.replicate_zero, regN_nil]
 | succ n ih => rw [List.replicate_succ, regN_cons, Nat.xor_zero, bit8_0]; exact ih
theorem regN_zeros_inj (n : Nat) {r : Nat} (h : r < 4294967296) (h0 : regN r (List.replicate n 0) = 0) : r = 0 := by
 have := regN_inj (List.replicate n 0) h (by simpa using h0)
 exact this
theorem mul_xor {a n : Nat} (y : Nat) (ha : a < 2 ^ n) : a ^^^ (y * 2 ^ n) = a + y * 2 ^ n := by
 rw [Nat.add_comm, Nat.mul_comm y]
 refine Nat.eq_of_testBit_eq fun i => ?_
 rw [Nat.testBit_two_pow_mul_add _ ha, Nat.testBit_xor, Nat.testBit_two_pow_mul]
 by_cases h : i < n
 ·have : ¬ i ≥ n := by omega
  simp [h, this]
 ·have h2 : a.testBit i = false := Nat.testBit_lt_two_pow (Nat.lt_of_lt_of_le ha (Nat.pow_le_pow_right (by decide) (by omega)))
  have : i ≥ n := by omega
  simp [h, h2, this]
theorem regN_four (r a b c d : Nat) : regN r [a, b, c, d] = bit8 (bit8 (bit8 (bit8 (r ^^^ a ^^^ (b * 256) ^^^ (c * 256 * 256) ^^^ (d * 256 * 256 * 256))))) := by
 rw [regN_cons, regN_cons, regN_cons, regN_cons, regN_nil]
 have e : ∀ x y, bit8 x ^^^ y = bit8 (x ^^^ (y * 256)) := fun x y => by rw [bit8_xor, bit8_shift]
 simp only [e]
theorem four_sum {a b c d : Nat} (ha : a < 256) (hb : b < 256) (hc : c < 256) : a ^^^ (b * 256) ^^^ (c * 256 * 256) ^^^ (d * 256 * 256 * 256) = a + b * 256 + c * 65536 + d * 16777216 := by
 have h1 := mul_xor (n := 8) b (a := a) ha
 have h2 := mul_xor (n := 16) c (a := a + b * 256) (by omega)
 have h3 := mul_xor (n := 24) d (a := a + b * 256 + c * 65536) (by omega)
 rw [show (2 : Nat) ^ 8 = 256 by decide] at h1
 rw [show (2 : Nat) ^ 16 = 65536 by decide] at h2
 rw [show (2 : Nat) ^ 24 = 16777216 by decide] at h3
 rw [h1, Nat.mul_assoc c, h2, Nat.mul_assoc, Nat.mul_assoc d, h3]
def big8 (r : Nat) : Nat := bit8 (bit8 (bit8 (bit8 r)))
theorem regN_seal (r y : Nat) (hy : y < 4294967296) : regN r (sealN y) = big8 (r ^^^ y) := by
 have h := four_sum (a := y % 256) (b := y / 256 % 256) (c := y / 65536 % 256) (d := y / 16777216) (by omega) (by omega) (by omega)
 unfold sealN big8
 rw [regN_four, Nat.xor_assoc, Nat.xor_assoc, Nat.xor_assoc, ← Nat.xor_assoc (y % 256), ← Nat.xor_assoc (_ ^^^ _), h]
 congr 6
 omega
theorem sumN_xor (l : List Nat) (hl : ∀ c ∈ l, c < 256) : sumN l = 4294967295 ^^^ regN 4294967295 l := compl_xor (regN_lt l (by decide) hl)
theorem regN_sealed (l : List Nat) (hl : ∀ c ∈ l, c < 256) : regN 4294967295 (l ++ sealN (sumN l)) = big8 4294967295 := by
 rw [regN_append, regN_seal _ _ (sumN_lt l), sumN_xor l hl, Nat.xor_comm, Nat.xor_assoc, Nat.xor_self, Nat.xor_zero]
theorem burst0 {a b c d p q : Nat} (ha : a < 256) (hb : b < 256) (hc : c < 256) (hd : d < 256) (h : regN 0 (List.replicate p 0 ++ ([a, b, c, d] ++ List.replicate q 0)) = 0) : a = 0 ∧ b = 0 ∧ c = 0 ∧ d = 0 := by
 rw [regN_append, regN_zeros, regN_append, regN_four, Nat.zero_xor, four_sum ha hb hc] at h
 have hlt : a + b * 256 + c * 65536 + d * 16777216 < 4294967296 := by omega
 have h2 := regN_zeros_inj q (bit8_lt (bit8_lt (bit8_lt (bit8_lt hlt)))) h
 have h3 := bit8_zero hlt (bit8_zero (bit8_lt hlt) (bit8_zero (bit8_lt (bit8_lt hlt)) (bit8_zero (bit8_lt (bit8_lt (bit8_lt hlt))) h2)))
 omega
def bentL : List Nat → Nat → List Nat → List Nat
 | [], _, _ => []
 | c :: cs, _, [] => c :: cs
 | c :: cs, 0, d :: ds => (c ^^^ d) :: bentL cs 0 ds
 | c :: cs, n + 1, d :: ds => c :: bentL cs n (d :: ds)
def diffL : Nat → Nat → List Nat → List Nat
 | 0, _, _ => []
 | n + 1, _, [] => List.replicate (n + 1) 0
 | n + 1, 0, d :: ds => d :: diffL n 0 ds
 | n + 1, k + 1, d :: ds => 0 :: diffL n k (d :: ds)
theorem bent_len : ∀ (s : List Nat) (k : Nat) (ds : List Nat), (bentL s k ds).length = s.length
 | [], _, _ => by simp [bentL]
 | c :: cs, _, [] => by simp [bentL]
 | c :: cs, 0, d :: ds => by simp [bentL, bent_len cs 0 ds]
 | c :: cs, n + 1, d :: ds => by simp [bentL, bent_len cs n (d :: ds)]
theorem regN_bent : ∀ (s : List Nat) (k : Nat) (ds : List Nat) (r t : Nat), regN (r ^^^ t) (bentL s k ds) = regN r s ^^^ regN t (diffL s.length k ds)
 | [], _, _, r, t => by simp only [bentL, diffL, List.length_nil, regN_nil]
 | c :: cs, k, [], r, t => by
  have h := regN_xor (c :: cs) (List.replicate (cs.length + 1) 0) r t (by simp)
  have e : ∀ l : List Nat, xorL l (List.replicate l.length 0) = l := by
   intro l; induction l with
   | nil => rfl
   | cons a as_ ih => simp only [List.length_cons, List.replicate_succ, xorL, Nat.xor_zero, ih]
  have e2 := e (c :: cs)
  rw [List.length_cons] at e2
  rw [e2] at h
  cases k <;> simpa only [bentL, diffL, List.length_cons] using h
 | c :: cs, 0, d :: ds, r, t => by
  simp only [bentL, diffL, List.length_cons, regN_cons]
  rw [xor4, bit8_xor]
  exact regN_bent cs 0 ds _ _
 | c :: cs, n + 1, d :: ds, r, t => by
  simp only [bentL, diffL, List.length_cons, regN_cons, Nat.xor_zero]
  rw [show r ^^^ t ^^^ c = r ^^^ c ^^^ t by rw [Nat.xor_assoc, Nat.xor_comm t, Nat.xor_assoc], bit8_xor]
  exact regN_bent cs n (d :: ds) _ _
theorem diff_shift : ∀ (k n : Nat) (d : Nat) (ds : List Nat), diffL (k + n) k (d :: ds) = List.replicate k 0 ++ diffL n 0 (d :: ds)
 | 0, n, d, ds => by simp
 | k + 1, n, d, ds => by
  rw [show k + 1 + n = (k + n) + 1 by omega]
  simp only [diffL, List.replicate_succ, List.cons_append]
  rw [diff_shift k n]
theorem bent_far : ∀ (s : List Nat) (k : Nat) (ds : List Nat), s.length ≤ k → bentL s k ds = s
 | [], _, _, _ => by simp [bentL]
 | c :: cs, _, [], _ => by simp [bentL]
 | c :: cs, 0, d :: ds, h => by simp at h
 | c :: cs, n + 1, d :: ds, h => by simp only [bentL]; rw [bent_far cs n (d :: ds) (by simpa using h)]
theorem bent_zero : ∀ (s : List Nat) (k : Nat) (m : Nat), bentL s k (List.replicate m 0) = s
 | [], _, _ => by simp [bentL]
 | c :: cs, k, 0 => by cases k <;> simp [bentL]
 | c :: cs, 0, m + 1 => by simp only [List.replicate_succ, bentL, Nat.xor_zero]; rw [bent_zero cs 0 m]
 | c :: cs, n + 1, m + 1 => by simp only [List.replicate_succ, bentL]; rw [← List.replicate_succ, bent_zero cs n (m + 1)]
theorem bent_cut : ∀ (s : List Nat) (k m : Nat) (ds : List Nat), s.length ≤ k + m → bentL s k ds = bentL s k (ds.take m)
 | [], _, _, _, _ => by simp [bentL]
 | c :: cs, k, m, [], _ => by simp
 | c :: cs, 0, 0, d :: ds, h => by simp at h
 | c :: cs, 0, m + 1, d :: ds, h => by
  simp only [bentL, List.take_succ_cons]
  rw [bent_cut cs 0 m ds (by simp at h; omega)]
 | c :: cs, n + 1, 0, d :: ds, h => by
  simp only [bentL, List.take_zero]
  rw [bent_cut cs n 0 (d :: ds) (by simp at h; omega)]
  cases cs <;> simp [bentL]
 | c :: cs, n + 1, m + 1, d :: ds, h => by
  simp only [bentL, List.take_succ_cons]
  rw [bent_cut cs n (m + 1) (d :: ds) (by simp at h; omega)]
  simp
theorem regN_more {l : List Nat} (n : Nat) (h : regN 0 l = 0) : regN 0 (l ++ List.replicate n 0) = 0 := by rw [regN_append, h, regN_zeros]
theorem bent_same (s : List Nat) (k : Nat) {a b c d : Nat} (r : Nat) (ha : a < 256) (hb : b < 256) (hc : c < 256) (hd : d < 256) (h : regN r (bentL s k [a, b, c, d]) = regN r s) : bentL s k [a, b, c, d] = s := by
 have h1 := regN_bent s k [a, b, c, d] r 0
 rw [Nat.xor_zero, h] at h1
 have h2 : regN 0 (diffL s.length k [a, b, c, d]) = 0 := by
  have : regN r s ^^^ regN r s = regN r s ^^^ (regN r s ^^^ regN 0 (diffL s.length k [a, b, c, d])) := by rw [← h1]
  rw [← Nat.xor_assoc, Nat.xor_self, Nat.zero_xor] at this
  exact this.symm
 rcases Nat.lt_or_ge k s.length with hk | hk
 ·obtain ⟨n, hn⟩ : ∃ n, s.length = k + n := ⟨s.length - k, by omega⟩
  rw [hn, diff_shift] at h2
  match n, hn with
  | 0, hn => omega
  | 1, hn =>
   simp only [diffL] at h2
   have h3 := regN_more 3 h2
   rw [List.append_assoc] at h3
   obtain ⟨rfl, -⟩ := burst0 (p := k) (q := 0) (b := 0) (c := 0) (d := 0) ha (by decide) (by decide) (by decide) (by simpa using h3)
   rw [bent_cut s k 1 _ (by omega)]
   exact bent_zero s k 1
  | 2, hn =>
   simp only [diffL] at h2
   have h3 := regN_more 2 h2
   rw [List.append_assoc] at h3
   obtain ⟨rfl, rfl, -⟩ := burst0 (p := k) (q := 0) (c := 0) (d := 0) ha hb (by decide) (by decide) (by simpa using h3)
   rw [bent_cut s k 2 _ (by omega)]
   exact bent_zero s k 2
  | 3, hn =>
   simp only [diffL] at h2
   have h3 := regN_more 1 h2
   rw [List.append_assoc] at h3
   obtain ⟨rfl, rfl, rfl, -⟩ := burst0 (p := k) (q := 0) (d := 0) ha hb hc (by decide) (by simpa using h3)
   rw [bent_cut s k 3 _ (by omega)]
   exact bent_zero s k 3
  | n + 4, hn =>
   have e : diffL (n + 4) 0 [a, b, c, d] = [a, b, c, d] ++ List.replicate n 0 := by cases n <;> simp [diffL]
   rw [e] at h2
   obtain ⟨rfl, rfl, rfl, rfl⟩ := burst0 ha hb hc hd h2
   exact bent_zero s k 4
 ·exact bent_far s k _ hk
theorem bent_get : ∀ (s : List Nat) (k : Nat) (ds : List Nat) (i : Nat), i < s.length → (bentL s k ds)[i]? = some (s.getD i 0 ^^^ (if k ≤ i then ds.getD (i - k) 0 else 0))
 | [], _, _, i, h => by simp at h
 | c :: cs, k, [], i, h => by
  simp only [bentL, List.getD_nil, ite_self, Nat.xor_zero]
  rw [List.getElem?_eq_getElem h]
  simp [List.getD_eq_getElem?_getD, List.getElem?_eq_getElem h]
 | c :: cs, 0, d :: ds, 0, h => by simp [bentL]
 | c :: cs, 0, d :: ds, i + 1, h => by
  have h' : i < cs.length := by simpa using h
  have := bent_get cs 0 ds i h'
  simp only [bentL, List.getElem?_cons_succ, this]
  simp
 | c :: cs, n + 1, d :: ds, 0, h => by simp [bentL]
 | c :: cs, n + 1, d :: ds, i + 1, h => by
  have h' : i < cs.length := by simpa using h
  have := bent_get cs n (d :: ds) i h'
  simp only [bentL, List.getElem?_cons_succ, this]
  simp
theorem bent_snoc (s : List Nat) (k : Nat) (ds : List Nat) (d : Nat) : bentL s k (ds ++ [d]) = (bentL s k ds).set (k + ds.length) (s.getD (k + ds.length) 0 ^^^ d) := by
 apply List.ext_getElem?
 intro i
 rcases Nat.lt_or_ge i s.length with h | h
 ·rw [bent_get _ _ _ _ h]
  by_cases he : k + ds.length = i
  ·subst he
   rw [List.getElem?_set_self (by rw [bent_len]; exact h)]
   simp [List.getD_eq_getElem?_getD]
  ·rw [List.getElem?_set_ne he, bent_get _ _ _ _ h]
   congr 2
   split
   ·rename_i hk
    rcases Nat.lt_or_ge (i - k) ds.length with h2 | h2
    ·simp [List.getD_eq_getElem?_getD, List.getElem?_append_left h2]
    ·have h3 : ds.length < i - k := by omega
     rw [List.getD_eq_getElem?_getD, List.getD_eq_getElem?_getD, List.getElem?_eq_none (by simp; omega), List.getElem?_eq_none h2]
   ·rfl
 ·rw [List.getElem?_eq_none (by rw [bent_len]; exact h), List.getElem?_eq_none (by simp [bent_len]; exact h)]
theorem bent_byte (s : List Nat) (k : Nat) (ds : List Nat) (hs : ∀ c ∈ s, c < 256) (hd : ∀ c ∈ ds, c < 256) : ∀ c ∈ bentL s k ds, c < 256 := by
 intro c hc
 obtain ⟨i, hi⟩ := List.mem_iff_getElem?.1 hc
 have hl : i < s.length := by
  have := (List.getElem?_eq_some_iff.1 hi).1
  rwa [bent_len] at this
 rw [bent_get _ _ _ _ hl] at hi
 obtain rfl := Option.some.inj hi
 refine xor_lt 8 ?_ ?_
 ·rw [List.getD_eq_getElem?_getD, List.getElem?_eq_getElem hl]; exact hs _ (List.getElem_mem hl)
 ·split
  ·rw [List.getD_eq_getElem?_getD]
   rcases Nat.lt_or_ge (i - k) ds.length with h | h
   ·rw [List.getElem?_eq_getElem h]; exact hd _ (List.getElem_mem h)
   ·rw [List.getElem?_eq_none h]; decide
  ·decide
theorem bent_keep (s : List Nat) (k m : Nat) (ds : List Nat) (h : m ≤ k) : (bentL s k ds).take m = s.take m := by
 apply List.ext_getElem?
 intro i
 rw [List.getElem?_take, List.getElem?_take]
 split
 ·rename_i hi
  rcases Nat.lt_or_ge i s.length with h2 | h2
  ·rw [bent_get _ _ _ _ h2, if_neg (by omega), Nat.xor_zero, List.getD_eq_getElem?_getD, List.getElem?_eq_getElem h2]; rfl
  ·rw [List.getElem?_eq_none (by rw [bent_len]; exact h2), List.getElem?_eq_none h2]
 ·rfl
def rowB (l : List Nat) : Array Value := (l.map fun (c : Nat) => Value.int .u8 (c : Int)).toArray
theorem rowB_at (l : List Nat) (j : Nat) (h : j < l.length) : (rowB l)[j]? = some (.int .u8 (l[j] : Int)) := by
 unfold rowB; simp [h]
theorem rowB_set (l : List Nat) (j c : Nat) : (rowB l).setIfInBounds j (.int .u8 (c : Int)) = rowB (l.set j c) := by
 unfold rowB; rw [List.setIfInBounds_toArray, List.map_set]
def four (x : Nat) : List Nat := [x % 256, x / 256 % 256, x / 65536 % 256, x / 16777216 % 256]
theorem four_lt (x : Nat) : ∀ c ∈ four x, c < 256 := by
 intro c hc
 simp only [four, List.mem_cons, List.not_mem_nil, or_false] at hc
 omega
def BlkM (w : World) (b : Nat) (cs : Array Value) (t : TypeId) (n : Nat) : Prop := w.heap[b]? = some (.cells cs t (n, n + 1))
theorem BlkM.cell {w : World} {b n : Nat} {cs : Array Value} {t : TypeId} (h : BlkM w b cs t n) (o : Nat) {v : Value} (hv : cs[o]? = some v) : w.cell? ⟨b, o, none⟩ = some v := by
 unfold BlkM at h
 simp [World.cell?, h, hv]
theorem BlkM.free {w : World} {b n : Nat} {cs : Array Value} {t : TypeId} (h : BlkM w b cs t n) (o : Nat) (ho : o < n) : w.frozen? ⟨b, o, none⟩ = false := by
 unfold BlkM at h
 simp [World.frozen?, h]; omega
theorem BlkM.lt {w : World} {b n : Nat} {cs : Array Value} {t : TypeId} (h : BlkM w b cs t n) : b < w.heap.size := by
 unfold BlkM at h
 rcases Nat.lt_or_ge b w.heap.size with h' | h'
 ·exact h'
 ·simp [Array.getElem?_eq_none h'] at h
theorem BlkM.new (w : World) (cs : Array Value) (t : TypeId) (n : Nat) : BlkM (w.alloc (.cells cs t (n, n + 1))) w.heap.size cs t n := by
 show (w.heap.push _)[w.heap.size]? = _
 simp
theorem BlkM.drew {w : World} {b n : Nat} {cs : Array Value} {t : TypeId} (h : BlkM w b cs t n) : BlkM w.drew b cs t n := h
theorem BlkM.set {w : World} {b n : Nat} {cs : Array Value} {t : TypeId} (h : BlkM w b cs t n) (o : Nat) (v : Value) : BlkM (w.setCell ⟨b, o, none⟩ v) b (cs.setIfInBounds o v) t n := by
 unfold BlkM at h ⊢
 simp [World.setCell, Array.getElem?_modify, h]
def rowZ (l : List Nat) (c : Nat) : Array Value := rowB (l ++ List.replicate (c - l.length) 0)
theorem bytesRow_rowZ (s : ByteArray) (c : Nat) : bytesRow s c = rowZ (byt s) c := by
 unfold bytesRow rowZ rowB
 apply Array.ext'
 rw [Array.toList_append, Array.toList_map, Array.toList_replicate, List.map_append, List.map_replicate, byt_len]
 unfold byt
 rw [List.map_map]
 rfl
theorem run_bytes (W : World) (s : ByteArray) : ∃ c, s.size ≤ c ∧ (convert 9 41 (.string s)).run Tryz.prog W = .ok (.slice (some ⟨W.heap.size, 0, none⟩) s.size c) (W.drew.alloc (.cells (rowZ (byt s) c) 5 (c, c + 1))) := by
 have h := run_bytes_of_string (P := Tryz.prog) W 9 41 5 s Tryz.underlying9 Tryz.underlying41 Tryz.underlying5
 refine ⟨grownCap W s.size 0 5, ?_, ?_⟩
 ·exact grownCap_ge W s.size 0 5
 ·have hge := grownCap_ge W s.size 0 5
  have hsz : (rowZ (byt s) (grownCap W s.size 0 5)).size = grownCap W s.size 0 5 := by
   unfold rowZ rowB
   simp [byt_len]; omega
  rw [h, bytesRow_rowZ, hsz]
theorem bent_none (s : List Nat) (k : Nat) : bentL s k [] = s := by cases s <;> cases k <;> rfl
theorem rowZ_at (l : List Nat) (c j : Nat) (h : j < l.length) : (rowZ l c)[j]? = some (.int .u8 (l[j] : Int)) := by
 unfold rowZ
 rw [rowB_at _ _ (by simp; omega)]
 rw [List.getElem_append_left h]
theorem rowZ_bent (s : List Nat) (k m : Nat) (ds : List Nat) (c : Nat) (h : k + m < s.length) (hd : ds.length ≤ m) : (rowZ (bentL s k ds) c)[k + m]? = some (.int .u8 ((s.getD (k + m) 0 : Nat) : Int)) := by
 have hl : k + m < (bentL s k ds).length := by rw [bent_len]; exact h
 rw [rowZ_at _ _ _ hl]
 have h2 := bent_get s k ds (k + m) h
 rw [List.getElem?_eq_getElem hl, if_pos (by omega), Nat.add_sub_cancel_left, List.getD_eq_getElem?_getD (l := ds), List.getElem?_eq_none hd] at h2
 rw [Option.some.inj h2]
 simp
theorem getD_lt {l : List Nat} (h : ∀ c ∈ l, c < 256) (i : Nat) : l.getD i 0 < 256 := by
 rw [List.getD_eq_getElem?_getD]
 rcases Nat.lt_or_ge i l.length with hi | hi
 ·rw [List.getElem?_eq_getElem hi]; exact h _ (List.getElem_mem hi)
 ·rw [List.getElem?_eq_none hi]; decide
theorem rowZ_set (l : List Nat) (c j v : Nat) (h : j < l.length) : (rowZ l c).setIfInBounds j (.int .u8 (v : Int)) = rowZ (l.set j v) c := by
 unfold rowZ
 rw [rowB_set, List.set_append_left _ _ h, List.length_set]
theorem four_take (x m : Nat) (h : m < 4) : (four x).take (m + 1) = (four x).take m ++ [(four x).getD m 0] := by
 match m, h with
 | 0, _ => rfl
 | 1, _ => rfl
 | 2, _ => rfl
 | 3, _ => rfl
theorem xor_four (y x m : Nat) (hy : y < 256) (h : m < 4) : bits .xor .u8 (y : Int) ((x : Int) / 2 ^ (8 * m) % 256) = ((y ^^^ (four x).getD m 0 : Nat) : Int) := by
 have hd : (x : Int) / 2 ^ (8 * m) % 256 = (((four x).getD m 0 : Nat) : Int) := by
  match m, h with
  | 0, _ => show (x : Int) / 1 % 256 = ((x % 256 : Nat) : Int); omega
  | 1, _ => show (x : Int) / 256 % 256 = ((x / 256 % 256 : Nat) : Int); omega
  | 2, _ => show (x : Int) / 65536 % 256 = ((x / 65536 % 256 : Nat) : Int); omega
  | 3, _ => show (x : Int) / 16777216 % 256 = ((x / 16777216 % 256 : Nat) : Int); omega
 rw [hd, u8_xor_nat _ _ hy (getD_lt (four_lt x) m)]
theorem frame_bent {b : List Nat} (hl : b.length ≤ 1000000) (hb : ∀ c ∈ b, c < 256) (p x : Nat) (hp : (putN b.length).length ≤ p) (hne : bentL (frameL b) p (four x) ≠ frameL b) :
  unwrapL (bentL (frameL b) p (four x)) = ([], (frameL b).length - 4, 9) := by
 have h1 := putN_len b.length
 have hF := frameL_len b
 have hFb := frameL_lt hb
 obtain ⟨t, ht⟩ : ∃ t, t = bentL (frameL b) p (four x) := ⟨_, rfl⟩
 rw [← ht] at hne ⊢
 have htl : t.length = (frameL b).length := by rw [ht, bent_len]
 have htb : ∀ c ∈ t, c < 256 := by rw [ht]; exact bent_byte _ _ _ hFb (four_lt x)
 have hhead : t.take (putN b.length).length = putN b.length := by
  rw [ht, bent_keep _ _ _ _ hp]
  unfold frameL
  rw [List.append_assoc, List.take_left]
 have hg : getN t = (b.length, (putN b.length).length, 0) := by
  rw [← List.take_append_drop (putN b.length).length t, hhead]
  exact get_put b.length _ (by omega)
 unfold unwrapL
 rw [hg]
 dsimp only
 rw [if_neg (by omega), if_neg (by simp), if_neg (by omega), if_neg (by omega), if_neg (by omega), if_pos, show (frameL b).length - 4 = (putN b.length).length + b.length by omega]
 intro he
 apply hne
 obtain ⟨u, hu⟩ : ∃ u, u = t.take ((putN b.length).length + b.length) := ⟨_, rfl⟩
 rw [← hu] at he
 have hcat : t = u ++ sealN (sumN u) := by rw [← he, hu, List.take_append_drop]
 have hub : ∀ c ∈ u, c < 256 := by rw [hu]; exact fun c hc => htb c (List.mem_of_mem_take hc)
 have r1 := regN_sealed u hub
 rw [← hcat] at r1
 have r2 : regN 4294967295 (frameL b) = big8 4294967295 := by
  unfold frameL
  refine regN_sealed _ (fun c hc => ?_)
  rcases List.mem_append.1 hc with h | h
  ·exact putF_byte 10 _ c h
  ·exact hb c h
 rw [ht] at r1 ⊢
 exact bent_same (frameL b) p 4294967295 (four_lt x _ (by simp [four])) (four_lt x _ (by simp [four])) (four_lt x _ (by simp [four])) (four_lt x _ (by simp [four])) (show regN 4294967295 (bentL (frameL b) p [x % 256, x / 256 % 256, x / 65536 % 256, x / 16777216 % 256]) = _ by rw [r2]; exact r1)
theorem get_cut : ∀ (k n i acc u m : Nat), i + k = 10 → m < (putF k n).length → (getF k i acc u ((putF k n).take m)).2.2 = 8
 | 0, n, i, acc, u, m, _, h => by simp [putF] at h
 | k + 1, n, i, acc, u, m, hi, h => by
  unfold putF at h ⊢
  split at h
  ·rename_i hn
   have hm : m = 0 := by simp at h; exact h
   subst hm
   rw [if_pos hn]
   rfl
  ·rename_i hn
   rw [if_neg hn]
   cases m with
   | zero => rfl
   | succ m =>
    have h' : m < (putF k (n / 128)).length := by simpa using h
    have hk : k ≠ 0 := by intro h0; subst h0; simp [putF] at h'
    rw [List.take_succ_cons, getF, if_neg (by omega), if_neg (by omega)]
    exact get_cut k (n / 128) (i + 1) _ _ m (by omega) h'
theorem cut_dec {b : List Nat} (hl : b.length ≤ 1000000) (hb : ∀ c ∈ b, c < 256) {n : Nat} (hn : n < (frameL b).length) : (decL ((frameL b).take n)).2.2 = 8 := by
 have h1 := putN_len b.length
 have hF := frameL_len b
 have hnl : ((frameL b).take n).length = n := by rw [List.length_take]; omega
 rcases Nat.lt_or_ge n (putN b.length).length with hp | hp
 ·have ht : (frameL b).take n = (putN b.length).take n := by
   unfold frameL
   rw [List.append_assoc, List.take_append_of_le_length (by omega)]
  have hg : (getN ((putN b.length).take n)).2.2 = 8 := get_cut 10 b.length 0 _ _ n rfl hp
  have hu : unwrapL ((frameL b).take n) = ([], 0, 8) := by
   unfold unwrapL
   rw [if_neg (by omega), ht, if_pos (by rw [hg]; decide), hg]
  rw [decL_frame hu (by decide)]
 ·have hg : getN ((frameL b).take n) = (b.length, (putN b.length).length, 0) := by
   have ht : (frameL b).take n = putN b.length ++ (b ++ sealN (sumN (putN b.length ++ b))).take (n - (putN b.length).length) := by
    unfold frameL
    rw [List.append_assoc, List.take_append, List.take_of_length_le hp]
   rw [ht]
   exact get_put b.length _ (by omega)
  have hu : unwrapL ((frameL b).take n) = ([], n, 8) := by
   unfold unwrapL
   rw [hg]
   dsimp only
   rw [if_neg (by omega), if_neg (by simp), if_neg (by omega), if_pos (by omega), hnl]
  rw [decL_frame hu (by decide)]
theorem long_dec {b : List Nat} (hl : b.length ≤ 1000000) (hb : ∀ c ∈ b, c < 256) {y : List Nat} (hy : y ≠ []) (hyl : y.length ≤ 1000000) : (decL (frameL b ++ y)).2.2 = 10 := by
 have h1 := putN_len b.length
 have hF := frameL_len b
 have hy1 : 0 < y.length := List.length_pos_iff.2 hy
 have hg : getN (frameL b ++ y) = (b.length, (putN b.length).length, 0) := by
  unfold frameL
  rw [List.append_assoc, List.append_assoc]; exact get_put b.length _ (by omega)
 have hlen : (frameL b ++ y).length = (frameL b).length + y.length := List.length_append
 have hu : unwrapL (frameL b ++ y) = ([], (putN b.length).length + b.length + 4, 10) := by
  unfold unwrapL
  rw [hg]
  dsimp only
  rw [if_neg (by omega), if_neg (by simp), if_neg (by omega), if_neg (by omega), if_pos (by omega)]
 rw [decL_frame hu (by decide)]
theorem bent_dec {b : List Nat} (hl : b.length ≤ 1000000) (hb : ∀ c ∈ b, c < 256) (p x : Nat) (hp : (putN b.length).length ≤ p) (hne : bentL (frameL b) p (four x) ≠ frameL b) : (decL (bentL (frameL b) p (four x))).2.2 = 9 := by
 rw [decL_frame (frame_bent hl hb p x hp hne) (by decide)]
theorem put_high : ∀ (k n i : Nat), n < 128 ^ k → i < (putF k n).length → (i + 1 < (putF k n).length → 128 ≤ (putF k n).getD i 0) ∧ (i + 1 = (putF k n).length → (putF k n).getD i 0 < 128)
 | 0, n, i, _, h => by simp [putF] at h
 | k + 1, n, i, hn, h => by
  unfold putF at h ⊢
  split at h
  ·rename_i h1
   rw [if_pos h1]
   have hi : i = 0 := by simp at h; exact h
   subst hi
   exact ⟨fun h2 => by simp at h2, fun _ => h1⟩
  ·rename_i h1
   rw [if_neg h1]
   have hn' : n / 128 < 128 ^ k := by rw [Nat.pow_succ] at hn; omega
   cases i with
   | zero =>
    refine ⟨fun _ => by simp, fun h2 => ?_⟩
    have h3 : (putF k (n / 128)).length = 0 := by simpa using h2.symm
    cases k with
    | zero => simp at hn'; omega
    | succ k => unfold putF at h3; split at h3 <;> simp at h3
   | succ i =>
    have h' : i < (putF k (n / 128)).length := by simpa using h
    have ih := put_high k (n / 128) i hn' h'
    refine ⟨fun h2 => ?_, fun h2 => ?_⟩
    ·rw [List.getD_cons_succ]; exact ih.1 (by simpa using h2)
    ·rw [List.getD_cons_succ]; exact ih.2 (by simpa using h2)
end Go.Proofs.YtnblhodhkifeeaaGreatDoor.Bt
