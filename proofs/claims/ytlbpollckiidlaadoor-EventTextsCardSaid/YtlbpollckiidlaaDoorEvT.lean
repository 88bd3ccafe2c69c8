/-
  Events' texts, in plain Lean: tokens between spaces; what a text tells is one event alone. Nothing of the program.
-/
import Derived.Test.YtlbpollckiidlaaDoorShD
import Derived.Lib.Split
import Derived.Lib.SplitLaws
import Derived.Lib.Join
import Derived.Lib.ItoaNum
import Derived.Lib.AtoiAll
import Derived.Lib.IndexLaws
import Derived.Lib.IndexMore
namespace Go.Proofs.YtlbpollckiidlaaDoor
set_option linter.unusedVariables false
set_option linter.unusedSimpArgs false
open Go

/-! ### Numerals -/
theorem ofNat_digit {d : Nat} (h : d < 10) : (UInt8.ofNat (48 + d)).toNat = 48 + d := by
  rw [UInt8.toNat_ofNat']; omega
theorem parse_digits : ∀ (u : Nat) (r : List UInt8), u < 18446744073709551616 → Lib.parseUint10 0 (Lib.decDigits u ++ r) = Lib.parseUint10 u r := by
  intro u
  induction u using Nat.strongRecOn with
  | _ u ih =>
    intro r hu
    by_cases h : u < 10
    · rw [Lib.decDigits, dif_pos h]
      simp only [List.cons_append, List.nil_append, Lib.parseUint10]
      rw [ofNat_digit h, if_pos (by omega), if_neg (by omega), if_neg (by omega)]
      congr 1; omega
    · rw [Lib.decDigits, dif_neg h, List.append_assoc, ih (u / 10) (by omega) _ (by omega)]
      simp only [List.cons_append, List.nil_append, Lib.parseUint10]
      rw [ofNat_digit (by omega : u % 10 < 10), if_pos (by omega), if_neg (by omega), if_neg (by omega)]
      congr 1; omega
theorem digits_ne (u : Nat) : Lib.decDigits u ≠ [] := by
  rw [Lib.decDigits]
  split <;> simp
theorem digits_mem : ∀ (u : Nat) (c : UInt8), c ∈ Lib.decDigits u → 48 ≤ c.toNat ∧ c.toNat ≤ 57 := by
  intro u
  induction u using Nat.strongRecOn with
  | _ u ih =>
    intro c hc
    rw [Lib.decDigits] at hc
    split at hc
    · rename_i h
      simp only [List.mem_singleton] at hc
      subst hc
      rw [ofNat_digit h]; omega
    · rename_i h
      rcases List.mem_append.1 hc with hc | hc
      · exact ih _ (by omega) c hc
      · simp only [List.mem_singleton] at hc
        subst hc
        rw [ofNat_digit (by omega)]; omega
theorem parseMag_digits (u : Nat) (hu : u < 18446744073709551616) : Lib.parseMag (Lib.decDigits u) = .ok u := by
  unfold Lib.parseMag
  rw [if_neg (digits_ne u)]
  have := parse_digits u [] hu
  rw [List.append_nil] at this
  rw [this]; rfl
theorem atoi_itoa (n : Int) (h0 : -9223372036854775808 ≤ n) (h1 : n ≤ 9223372036854775807) : Lib.atoiAll (Lib.itoa n) = .ok n := by
  unfold Lib.itoa
  by_cases hn : n < 0
  · rw [if_pos hn]
    have hm := parseMag_digits n.natAbs (by omega)
    unfold Lib.atoiAll
    have e45 : (45 : UInt8).toNat = 45 := rfl
    simp only [e45]
    rw [if_pos (Or.inr trivial), hm]
    simp only [not_true_eq_false, false_and, if_false, true_and, if_true]
    rw [if_neg (by omega)]
    congr 1; omega
  · rw [if_neg hn]
    have hm := parseMag_digits n.toNat (by omega)
    cases hd : Lib.decDigits n.toNat with
    | nil => exact absurd hd (digits_ne _)
    | cons c r =>
      have hc := digits_mem n.toNat c (by rw [hd]; simp)
      rw [hd] at hm
      unfold Lib.atoiAll
      have h43 : ¬ c.toNat = 43 := by omega
      have h45 : ¬ c.toNat = 45 := by omega
      have h9 : ¬ 9223372036854775808 ≤ n.toNat := by omega
      simp only [h43, h45, or_self, if_false, hm, h9, not_false_eq_true, true_and, and_false, false_and]
      congr 1
      omega
theorem itoa_inj {m n : Int} (h0 : -9223372036854775808 ≤ m) (h1 : m ≤ 9223372036854775807) (h2 : -9223372036854775808 ≤ n) (h3 : n ≤ 9223372036854775807) (h : Lib.itoa m = Lib.itoa n) : m = n := by
  have a := atoi_itoa m h0 h1
  rw [h, atoi_itoa n h2 h3] at a
  injection a with a
  exact a.symm
theorem itoa_space (n : Int) : (32 : UInt8) ∉ Lib.itoa n := by
  intro h
  unfold Lib.itoa at h
  split at h
  · rcases List.mem_cons.1 h with h | h
    · exact absurd h (by decide)
    · have := digits_mem _ _ h; exact absurd this.1 (by decide)
  · have := digits_mem _ _ h; exact absurd this.1 (by decide)

/-! ### Tokens between spaces -/
theorem index_tok : ∀ (t r : List UInt8), (32 : UInt8) ∉ t → Lib.index (t ++ 32 :: r) [32] = (t.length : Int)
  | [], r, _ => by simp [Lib.index, List.isPrefixOf]
  | b :: t, r, h => by
    have hb : (32 : UInt8) ≠ b := fun e => h (by rw [e]; simp)
    have ih := index_tok t r (fun hm => h (by simp [hm]))
    simp only [List.cons_append, Lib.index]
    rw [if_neg (by simp [List.isPrefixOf, hb]), ih, if_neg (by simp)]
    simp
theorem index_no : ∀ (t : List UInt8), (32 : UInt8) ∉ t → Lib.index t [32] = -1
  | [], _ => by simp [Lib.index]
  | b :: t, h => by
    have hb : (32 : UInt8) ≠ b := fun e => h (by rw [e]; simp)
    have ih := index_no t (fun hm => h (by simp [hm]))
    simp only [Lib.index]
    rw [if_neg (by simp [List.isPrefixOf, hb]), ih]
    simp
theorem join_two (x y : List UInt8) (r : List (List UInt8)) : Lib.join (x :: y :: r) [32] = x ++ 32 :: Lib.join (y :: r) [32] := by
  rw [Lib.join_cons, Lib.join_cons]
  simp [Lib.joinTail]
theorem split_join : ∀ (x : List UInt8) (r : List (List UInt8)), (∀ t ∈ x :: r, (32 : UInt8) ∉ t) → Lib.split (Lib.join (x :: r) [32]) [32] = x :: r
  | x, [], h => by
    have hi := index_no x (h x (by simp))
    rw [Lib.join_one]
    unfold Lib.split
    rw [Lib.count_miss hi]; rfl
  | x, y :: r, h => by
    have ih := split_join y r (fun t ht => h t (by simp at ht ⊢; exact Or.inr ht))
    have hi := index_tok x (Lib.join (y :: r) [32]) (h x (by simp))
    rw [join_two]
    unfold Lib.split at ih ⊢
    rw [Lib.count_hit (by simp) hi]
    have hd : (x ++ 32 :: Lib.join (y :: r) [32]).drop (x.length + [(32 : UInt8)].length) = Lib.join (y :: r) [32] := by
      rw [List.drop_append]
      simp
    rw [hd, Nat.add_comm]
    simp only [Lib.splitK]
    rw [hi, if_neg (by simp)]
    have e : ((x.length : Int)).toNat = x.length := by simp
    rw [e, hd, ih]
    simp
theorem join_inj {x y : List UInt8} {r q : List (List UInt8)} (h1 : ∀ t ∈ x :: r, (32 : UInt8) ∉ t) (h2 : ∀ t ∈ y :: q, (32 : UInt8) ∉ t) (h : Lib.join (x :: r) [32] = Lib.join (y :: q) [32]) : x :: r = y :: q := by
  rw [← split_join x r h1, h, split_join y q h2]

/-! ### An event's text -/
def kindNames : List (List UInt8) := [[], [98, 101, 103, 105, 110], [108, 111, 111, 107], [108, 111, 97, 100], [108, 111, 99, 107], [98, 117, 109, 112], [99, 104, 101, 99, 107], [99, 111, 109, 109, 105, 116], [115, 116, 111, 114, 101], [102, 114, 101, 101], [97, 98, 111, 114, 116], [117, 110, 100, 111], [119, 97, 105, 116], [119, 97, 107, 101]]
def kindName (k : Int) : List UInt8 := kindNames.getD k.toNat []
def partsE (e : Ev) : List Int :=
  if e.kind = 1 then [e.tx, e.v] else if e.kind = 2 then [e.at_, e.v] else if e.kind = 3 ∨ e.kind = 8 then [e.at_, e.x]
  else if e.kind = 4 ∨ e.kind = 6 ∨ e.kind = 9 ∨ e.kind = 11 then [e.at_] else if e.kind = 5 ∨ e.kind = 7 then [e.v] else if e.kind = 10 then [e.why, e.at_] else []
def showT (e : Ev) : List UInt8 := Lib.join (Lib.itoa e.th :: kindName e.kind :: (partsE e).map Lib.itoa) [32]
def mayT (e : Ev) : Bool := mayE e 6 32 32
theorem kindName_space (k : Int) : (32 : UInt8) ∉ kindName k := by
  unfold kindName
  rw [List.getD_eq_getElem?_getD]
  cases h : kindNames[k.toNat]? with
  | none => simp
  | some l =>
    have hm := List.mem_of_getElem? h
    have : ∀ l ∈ kindNames, (32 : UInt8) ∉ l := by decide
    exact this l hm
theorem toks_space (e : Ev) : ∀ t ∈ Lib.itoa e.th :: kindName e.kind :: (partsE e).map Lib.itoa, (32 : UInt8) ∉ t := by
  intro t ht
  rcases List.mem_cons.1 ht with rfl | ht
  · exact itoa_space _
  rcases List.mem_cons.1 ht with rfl | ht
  · exact kindName_space _
  obtain ⟨n, -, rfl⟩ := List.mem_map.1 ht
  exact itoa_space _
theorem split_show (e : Ev) : Lib.split (showT e) [32] = Lib.itoa e.th :: kindName e.kind :: (partsE e).map Lib.itoa := split_join _ _ (toks_space e)
theorem kindName_inj {j k : Int} (hj : 1 ≤ j ∧ j ≤ 13) (hk : 1 ≤ k ∧ k ≤ 13) (h : kindName j = kindName k) : j = k := by
  have key : ∀ a : Fin 14, ∀ b : Fin 14, kindNames.getD a.val [] = kindNames.getD b.val [] → a = b := by decide
  have := key ⟨j.toNat, by omega⟩ ⟨k.toNat, by omega⟩ h
  have := congrArg Fin.val this
  simp only at this
  omega
theorem map_itoa_inj : ∀ {l m : List Int}, (∀ n ∈ l, -9223372036854775808 ≤ n ∧ n ≤ 9223372036854775807) → (∀ n ∈ m, -9223372036854775808 ≤ n ∧ n ≤ 9223372036854775807) → l.map Lib.itoa = m.map Lib.itoa → l = m
  | [], [], _, _, _ => rfl
  | [], _ :: _, _, _, h => by simp at h
  | _ :: _, [], _, _, h => by simp at h
  | a :: l, b :: m, h1, h2, h => by
    simp only [List.map_cons, List.cons.injEq] at h
    have ha := h1 a (by simp)
    have hb := h2 b (by simp)
    rw [itoa_inj ha.1 ha.2 hb.1 hb.2 h.1, map_itoa_inj (fun n hn => h1 n (by simp [hn])) (fun n hn => h2 n (by simp [hn])) h.2]
/-- What an event that may be is: its Kind, its Thread, and its Kind's parts. -/
theorem mayT_of {e : Ev} (h : mayT e = true) : (1 ≤ e.kind ∧ e.kind ≤ 13) ∧ (0 ≤ e.th ∧ e.th < 6) ∧ e = bareE e := by
  unfold mayT mayE at h
  simp only [Bool.and_eq_true, decide_eq_true_eq] at h
  obtain ⟨⟨-, h1, h2, -, h3, h4, -⟩, h5⟩ := h
  exact ⟨⟨h1, h2⟩, ⟨h3, h4⟩, Ev.ext' h5.1 h5.2.1 h5.2.2.1 h5.2.2.2.1 h5.2.2.2.2.1 h5.2.2.2.2.2.1 h5.2.2.2.2.2.2⟩
theorem bare_inj {e f : Ev} (h1 : e.kind = f.kind) (h2 : e.th = f.th) (h3 : partsE e = partsE f) : bareE e = bareE f := by
  obtain ⟨k, th, tx, a, v, x, y⟩ := e
  obtain ⟨k', th', tx', a', v', x', y'⟩ := f
  simp only at h1 h2
  subst h1; subst h2
  unfold partsE at h3
  unfold bareE
  simp only at h3 ⊢
  by_cases k1 : k = 1
  · simp only [if_pos k1, List.cons.injEq, and_true] at h3 ⊢; rw [h3.1, h3.2]
  simp only [if_neg k1] at h3 ⊢
  by_cases k2 : k = 2
  · simp only [if_pos k2, List.cons.injEq, and_true] at h3 ⊢; rw [h3.1, h3.2]
  simp only [if_neg k2] at h3 ⊢
  by_cases k3 : k = 3 ∨ k = 8
  · simp only [if_pos k3, List.cons.injEq, and_true] at h3 ⊢; rw [h3.1, h3.2]
  simp only [if_neg k3] at h3 ⊢
  by_cases k4 : k = 4 ∨ k = 6 ∨ k = 9 ∨ k = 11
  · simp only [if_pos k4, List.cons.injEq, and_true] at h3 ⊢; rw [h3]
  simp only [if_neg k4] at h3 ⊢
  by_cases k5 : k = 5 ∨ k = 7
  · simp only [if_pos k5, List.cons.injEq, and_true] at h3 ⊢; rw [h3]
  simp only [if_neg k5] at h3 ⊢
  by_cases k6 : k = 10
  · simp only [if_pos k6, List.cons.injEq, and_true] at h3 ⊢; rw [h3.1, h3.2]
  simp only [if_neg k6]
theorem parts_ok {e : Ev} (he : (-9223372036854775808 ≤ e.tx ∧ e.tx ≤ 9223372036854775807) ∧ (-9223372036854775808 ≤ e.at_ ∧ e.at_ ≤ 9223372036854775807) ∧ (-9223372036854775808 ≤ e.v ∧ e.v ≤ 9223372036854775807) ∧ (-9223372036854775808 ≤ e.x ∧ e.x ≤ 9223372036854775807) ∧ (0 ≤ e.why ∧ e.why ≤ 255)) :
    ∀ n ∈ partsE e, -9223372036854775808 ≤ n ∧ n ≤ 9223372036854775807 := by
  obtain ⟨h1, h2, h3, h4, h5⟩ := he
  intro n hn
  unfold partsE at hn
  split at hn
  · simp only [List.mem_cons, List.not_mem_nil, or_false] at hn; rcases hn with rfl | rfl <;> omega
  split at hn
  · simp only [List.mem_cons, List.not_mem_nil, or_false] at hn; rcases hn with rfl | rfl <;> omega
  split at hn
  · simp only [List.mem_cons, List.not_mem_nil, or_false] at hn; rcases hn with rfl | rfl <;> omega
  split at hn
  · simp only [List.mem_cons, List.not_mem_nil, or_false] at hn; subst hn; omega
  split at hn
  · simp only [List.mem_cons, List.not_mem_nil, or_false] at hn; subst hn; omega
  split at hn
  · simp only [List.mem_cons, List.not_mem_nil, or_false] at hn; rcases hn with rfl | rfl <;> omega
  · simp at hn
def InK (e : Ev) : Prop := (-9223372036854775808 ≤ e.tx ∧ e.tx ≤ 9223372036854775807) ∧ (-9223372036854775808 ≤ e.at_ ∧ e.at_ ≤ 9223372036854775807) ∧ (-9223372036854775808 ≤ e.v ∧ e.v ≤ 9223372036854775807) ∧ (-9223372036854775808 ≤ e.x ∧ e.x ≤ 9223372036854775807) ∧ (0 ≤ e.why ∧ e.why ≤ 255)
/-- Unlike events that may be have unlike texts. -/
theorem showT_inj {e f : Ev} (he : mayT e = true) (hf : mayT f = true) (ie : InK e) (jf : InK f) (h : showT e = showT f) : e = f := by
  obtain ⟨k1, t1, b1⟩ := mayT_of he
  obtain ⟨k2, t2, b2⟩ := mayT_of hf
  have hj := join_inj (toks_space e) (toks_space f) h
  simp only [List.cons.injEq] at hj
  obtain ⟨h1, h2, h3⟩ := hj
  rw [b1, b2]
  exact bare_inj (kindName_inj k1 k2 h2) (itoa_inj (by omega) (by omega) (by omega) (by omega) h1) (map_itoa_inj (parts_ok ie) (parts_ok jf) h3)
end Go.Proofs.YtlbpollckiidlaaDoor
