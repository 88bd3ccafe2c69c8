/-
  Walks: the document's Put; frames put together, both.
-/
import Derived.Test.YtonckpblbdopmaaFrW4
import Derived.Deep.RegionLaw
import Derived.Test.YtonckpblbdopmaaShelf
namespace Go.Proofs.Ytonckpblbdopmaa
set_option linter.unusedVariables false
open Go Go.RowKit

theorem run_conv_one (w : World) (b : Nat) (x : Nat) (hx : x < 256) (t : TypeId) (h : Blk w b #[.int .u8 (x : Int)] t) :
    (convert 23 9 (.slice (some ⟨b, 0, none⟩) 1 1)).run Try.prog w = .ok (.string (bstr [x])) w :=
  run_conv_bytes w b 0 1 [x] (by simpa using hx) (fun j hj => by
    match j, hj with
    | 0, _ => exact h.cell 0 rfl)
theorem putF_enough : ∀ (k n : Nat), n < 128 ^ (k + 1) → ∀ m, putF (k + 1 + m) n = putF (k + 1) n
  | 0, n, h, m => by
    have h1 : n < 128 := by simpa using h
    rw [show 0 + 1 + m = m + 1 by omega]
    simp [putF, h1]
  | k + 1, n, h, m => by
    rw [show k + 1 + 1 + m = (k + 1 + m) + 1 by omega]
    simp only [putF]
    split
    · rfl
    · rw [putF_enough k (n / 128) (by rw [Nat.pow_succ] at h; exact Nat.div_lt_of_lt_mul (by rw [Nat.mul_comm]; exact h)) m]
      rfl

theorem bstr_size (l : List Nat) : (bstr l).size = l.length := by simp [bstr, ByteArray.size]
theorem byt_append (a b : ByteArray) : byt (a ++ b) = byt a ++ byt b := by simp [byt, ByteArray.data_append]
theorem size_of_byt {s : ByteArray} {k n : Nat} (h : byt s = putF k n) : s.size ≤ k := by
  rw [← byt_len, h]; exact putF_len k n

set_option maxRecDepth 100000 in
set_option maxHeartbeats 4000000 in
theorem rput_aux (k : Nat) : k ≤ 9 → ∀ (n : Nat) (w : World), n < 128 ^ (k + 1) → n < 18446744073709551616 → Calls Try.prog 66 #[.int .u64 n] w (StrOf w (putF (k + 1) n)) := by
  induction k with
  | zero =>
    intro _ n w hn _
    have hn1 : n < 128 := by simpa using hn
    have h1 : (n : Int) < 128 := by omega
    have h2 : (n : Int) < 256 := by omega
    have hk := run_conv_one (w.alloc (.cells #[.int .u8 (n : Int)] 5)) w.heap.size n (by omega) _ (Blk.new _ _ _)
    have HN := hid hn1
    clear hn hn1
    go_enter Try.func66, Try.ntmps66
    go_wp2_with fail
    go_ret
    refine ⟨_, rfl, ?_, ext_alloc (ext_refl _) _⟩
    rw [byt_bstr (by have := HN.out; simp; omega)]
    simp [putF, HN.out]
  | succ k ih =>
    intro hk9 n w hn hlt
    by_cases hn1 : n < 128
    · have h1 : (n : Int) < 128 := by omega
      have h2 : (n : Int) < 256 := by omega
      have hk := run_conv_one (w.alloc (.cells #[.int .u8 (n : Int)] 5)) w.heap.size n (by omega) _ (Blk.new _ _ _)
      have HN := hid hn1
      clear hn hn1 ih hlt
      go_enter Try.func66, Try.ntmps66
      go_wp2_with fail
      go_ret
      refine ⟨_, rfl, ?_, ext_alloc (ext_refl _) _⟩
      rw [byt_bstr (by have := HN.out; simp; omega)]
      simp [putF, HN.out]
    · have h1 : ¬ (n : Int) < 128 := by omega
      have h3 : (n : Int) ≤ 18446744073709551615 := by omega
      have HIH := hid (ih (by omega) (n / 128))
      have HLE : Hid (n / 128 < 128 ^ (k + 1)) := hid (by rw [Nat.pow_succ] at hn; exact Nat.div_lt_of_lt_mul (by rw [Nat.mul_comm]; exact hn))
      have HN := hid hn1
      have HLT := hid hlt
      obtain ⟨x, hx⟩ : ∃ x : Nat, x = n % 128 + 128 := ⟨_, rfl⟩
      have hx2 : x < 256 := by omega
      have hxe : IntKind.u8.wrap (IntKind.u64.wrap (Int.tmod (n : Int) 128 + 128)) = (x : Int) := by
        rw [Int.tmod_eq_emod_of_nonneg (by omega), IntKind.wrap_u8, IntKind.wrap_u64]; omega
      obtain ⟨q, hq⟩ : ∃ q : Nat, q = n / 128 := ⟨_, rfl⟩
      have hqe : IntKind.u64.wrap ((n : Int) / 128) = (q : Int) := by rw [IntKind.wrap_u64]; omega
      rw [← hq] at HIH HLE
      have HQ := hid hq
      have hx3 : (x : Int) < 256 := by omega
      have hk0 := run_conv_one (w.alloc (.cells #[.int .u8 (x : Int)] 5)).drew w.heap.size x hx2 _ (Blk.drew (Blk.new _ _ _))
      have hk1 : ∀ W : World, (convert 23 9 (.slice (some ⟨W.heap.size, 0, none⟩) 1 1)).run Try.prog (W.alloc (.cells #[.int .u8 (x : Int)] 5)) = .ok (.string (bstr [x])) (W.alloc (.cells #[.int .u8 (x : Int)] 5)) := fun W => run_conv_one _ _ x hx2 _ (Blk.new _ _ _)
      have HX := hid hx
      have HX2 := hid hx2
      clear ih hn hlt hx hn1 hq
      go_enter Try.func66, Try.ntmps66
      go_wp2_with fail
      go_region_law (first
        | (go_simp; go_at_call 66; refine (HIH.out _ HLE.out (by have := HLT.out; have := HQ.out; omega)).mono ?_; rintro e' w1 ⟨s1, rfl, hs1, hb1⟩; have HS1 := hid hs1; have hno : ¬ (9223372036854775807 < (bstr [x]).size + s1.size) := (by have h1 := size_of_byt hs1; have h2 : (bstr [x]).size = 1 := bstr_size [x]; omega); clear hs1; first | (have hB1 : Blk w1 w.heap.size #[.int .u8 (x : Int)] 5 := Blk.below hb1 (Blk.drew (Blk.new _ _ _)); have hk2 := run_conv_one w1 w.heap.size x HX2.out _ hB1; have HB := hid hB1; clear hB1) | skip))
      all_goals
        go_wp2_with fail
        go_ret
        refine ⟨_, rfl, ?_, by repeat (first | assumption | exact ext_refl _ | refine ext_drew ?_ | refine ext_alloc ?_ _ | refine ext_trans ?_ (by assumption))⟩
        rw [byt_append, HS1.out, byt_bstr (by have := HX2.out; simpa using this), HQ.out, HX.out]
        have hz := HN.out
        simp only [putF, hz, if_false, List.singleton_append]
set_option maxRecDepth 100000 in
set_option maxHeartbeats 4000000 in
theorem rput_any (n : Nat) (w : World) (hn : n < 18446744073709551616) : Calls Try.prog 66 #[.int .u64 n] w (StrOf w (putN n)) :=
  rput_aux 9 (by decide) n w (Nat.lt_trans hn (by decide)) hn

theorem join3 (a b c : List UInt8) : Lib.join [a, b, c] [] = a ++ b ++ c := by
  rw [Lib.join_cons]
  show a ++ (b ++ (c ++ [])) = a ++ b ++ c
  rw [List.append_nil, List.append_assoc]
theorem len_data (s : ByteArray) : s.data.toList.length = s.size := by rw [Array.length_toList]; rfl
/-- A frame, plainly. -/
def wrapL (b : List Nat) : List Nat × Nat := if 16777216 < (putN b.length).length + b.length + 4 then ([], 40) else (putN b.length ++ b ++ sealN (sumN (putN b.length ++ b)), 0)
/-- A text came back, and a number. -/
def StrE (w : World) (l : List Nat) (n : Nat) (e : Ending) (w' : World) : Prop := ∃ s : ByteArray, e = .returned (.tuple #[.string s, .int .i64 n]) ∧ byt s = l ∧ Below w.heap.size w w'
theorem putN_len (n : Nat) : (putN n).length ≤ 10 := putF_len 10 n
theorem byt_nil : byt ⟨#[]⟩ = [] := rfl

set_option maxRecDepth 100000 in
set_option maxHeartbeats 4000000 in
theorem wrap_any (b : ByteArray) (w : World) (hb : b.size ≤ 9223372036854775807) : Calls Try.prog 20 #[.string b] w (StrE w (wrapL (byt b)).1 (wrapL (byt b)).2) := by
  have hb0 : (b.size : Int) ≤ 9223372036854775807 := by omega
  have hb1 : (0 : Int) ≤ (b.size : Int) := by omega
  go_enter Try.func20, Try.ntmps20
  go_wp2_with fail
  refine (put_any b.size w (by omega)).mono ?_
  rintro e' w1 ⟨h, rfl, hh, hb1'⟩
  have hl := putN_len b.size
  rw [← hh, byt_len] at hl
  have HH := hid hh
  clear hh
  have hl1 : (h.size : Int) ≤ 10 := by omega
  have hl0 : (0 : Int) ≤ (h.size : Int) := by omega
  by_cases hbig : 16777216 < h.size + b.size + 4
  · have HB := hid hbig
    have ht : 16777216 - (h.size : Int) - 4 < (b.size : Int) := by omega
    have HW : Hid (wrapL (byt b) = ([], 40)) := hid (by
      unfold wrapL
      rw [if_pos (by rw [byt_len, ← HH.out, byt_len]; exact hbig)])
    clear hbig
    go_wp2_with fail
    go_ret2
    rw [HW.out]
    exact ⟨_, rfl, rfl, hb1'⟩
  · have ht : ¬ (16777216 - (h.size : Int) - 4 < (b.size : Int)) := by omega
    have HB := hid hbig
    have HW : Hid (wrapL (byt b) = (byt h ++ byt b ++ sealN (sumN (byt h ++ byt b)), 0)) := hid (by
      unfold wrapL
      rw [if_neg (by rw [byt_len, ← HH.out, byt_len]; exact hbig), byt_len, ← HH.out])
    clear hbig
    have hsz2 : h.size + b.size + 4 ≤ 16777216 := by have := HB.out; omega
    have HSZ2 := hid hsz2
    clear hsz2
    go_wp2_with fail
    have hN := Blk.new w1 #[.string h, .string b] 9
    refine (register_any [h, b] _ w1.heap.size 0 2 (by intro s hs; simp at hs; rcases hs with rfl | rfl <;> omega) (by simp) (fun j x hj => by
      match j, hj with
      | 0, hj => simp at hj; subst hj; exact hN.cell 0 rfl
      | 1, hj => simp at hj; subst hj; exact hN.cell 1 rfl)).mono ?_
    rintro e' w2 ⟨rfl, hb2⟩
    clear hN
    go_wp2_with fail
    refine (seal_any _ _ (sumN_lt _)).mono ?_
    rintro e' w3 ⟨s, rfl, hs, hb3⟩
    have HS := hid hs
    have hss : s.size = 4 := by rw [← byt_len, hs]; rfl
    have HSS := hid hss
    clear hs hss
    go_wp2_with fail
    have hN := Blk.new w3 #[.string h, .string b, .string s] 9
    refine (Try.strings_Join w3.heap.size 0 3 [h, b, s] ⟨#[]⟩ _ (fun j x hj => by
      match j, hj with
      | 0, hj => simp at hj; subst hj; exact hN.cell 0 rfl
      | 1, hj => simp at hj; subst hj; exact hN.cell 1 rfl
      | 2, hj => simp at hj; subst hj; exact hN.cell 2 rfl) hN.lt (by simp) (by simp) (by
        have h1 := HSZ2.out
        have h2 := HSS.out
        rw [show ([h, b, s].map (·.data.toList)) = [h.data.toList, b.data.toList, s.data.toList] from rfl, show (⟨#[]⟩ : ByteArray).data.toList = [] from rfl, join3, List.length_append, List.length_append, len_data, len_data, len_data]
        omega)).mono ?_
    rintro e' w4 ⟨rfl, hb4⟩
    clear hN
    go_wp2_with fail
    go_ret2
    rw [HW.out]
    refine ⟨_, rfl, ?_, by repeat (first | assumption | exact ext_refl _ | refine ext_drew ?_ | refine ext_alloc ?_ _ | refine ext_trans ?_ (by assumption))⟩
    rw [byt_mk, join3, List.map_append, List.map_append]
    have h3 := HS.out
    rw [show catB [h, b] = byt h ++ byt b by simp [catB]] at h3
    rw [← h3]
    rfl
set_option maxRecDepth 100000 in
set_option maxHeartbeats 4000000 in
theorem rwrap_any (b : ByteArray) (w : World) (hb : b.size ≤ 140737488351232) : Calls Try.prog 23 #[.string b] w (StrE w (wrapL (byt b)).1 (wrapL (byt b)).2) := by
  have hb0 : (b.size : Int) ≤ 140737488351232 := by omega
  have hb1 : (0 : Int) ≤ (b.size : Int) := by omega
  go_enter Try.func23, Try.ntmps23
  go_wp2_with fail
  refine (rput_any b.size w (by omega)).mono ?_
  rintro e' w1 ⟨h, rfl, hh, hb1'⟩
  have hl := putN_len b.size
  rw [← hh, byt_len] at hl
  have HH := hid hh
  clear hh
  have hl1 : (h.size : Int) ≤ 10 := by omega
  have hl0 : (0 : Int) ≤ (h.size : Int) := by omega
  have hno : ¬ (9223372036854775807 < h.size + b.size) := by omega
  by_cases hbig : 16777216 < h.size + b.size + 4
  · have HB := hid hbig
    have ht : (16777216 : Int) < (h.size : Int) + (b.size : Int) + 4 := by omega
    have HW : Hid (wrapL (byt b) = ([], 40)) := hid (by
      unfold wrapL
      rw [if_pos (by rw [byt_len, ← HH.out, byt_len]; exact hbig)])
    clear hbig
    go_wp2_with fail
    go_ret2
    rw [HW.out]
    exact ⟨_, rfl, rfl, hb1'⟩
  · have ht : decide ((16777216 : Int) < (h.size : Int) + (b.size : Int) + 4) = false := by rw [decide_eq_false_iff_not]; omega
    have HB := hid hbig
    have HW : Hid (wrapL (byt b) = (byt h ++ byt b ++ sealN (sumN (byt h ++ byt b)), 0)) := hid (by
      unfold wrapL
      rw [if_neg (by rw [byt_len, ← HH.out, byt_len]; exact hbig), byt_len, ← HH.out])
    have hsz : (h ++ b).size = h.size + b.size := by simp [ByteArray.size_append]
    have HSZ := hid hsz
    clear hbig hsz
    go_wp2_with fail
    refine (rsum_any (h ++ b) _ (by have := HSZ.out; have := HB.out; omega)).mono ?_
    rintro e' w2 ⟨rfl, rfl⟩
    go_wp2_with fail
    refine (rseal_any _ _ (sumN_lt _)).mono ?_
    rintro e' w3 ⟨s, rfl, hs, hb3⟩
    have HS := hid hs
    have hss : s.size = 4 := by rw [← byt_len, hs]; rfl
    have hno2 : ¬ (9223372036854775807 < h.size + b.size + s.size) := by have := HB.out; omega
    clear hs hss
    go_wp2_with fail
    go_ret2
    rw [HW.out]
    refine ⟨_, rfl, ?_, by repeat (first | assumption | exact ext_refl _ | refine ext_drew ?_ | refine ext_alloc ?_ _ | refine ext_trans ?_ (by assumption))⟩
    rw [byt_append, HS.out, byt_append]
end Go.Proofs.Ytonckpblbdopmaa
