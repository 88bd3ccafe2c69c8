/-
  The document's numbers as bytes: Put, Zig (seesawref01), told of the coder's texts.
-/
import Derived.Test.YtokkafiphchejaaDoorDeG4
import Derived.Test.YtokkafiphchejaaDoorDeG3
import Derived.Deep.RegionLaw
namespace Go.Proofs.YtokkafiphchejaaDoor
set_option linter.unusedVariables false
set_option linter.unusedSimpArgs false
set_option linter.unusedVariables false
open Go Go.RowKit
theorem run_conv_one (w : World) (b : Nat) (x : Nat) (hx : x < 256) (t : TypeId) (h : Blk w b #[.int .u8 (x : Int)] t) :
    (convert 75 9 (.slice (some ⟨b, 0, none⟩) 1 1)).run Tryd.prog w = .ok (.string (bstr [x])) w :=
  run_conv_bytes w b 0 1 [x] (by simpa using hx) (fun j hj => by
    match j, hj with
    | 0, _ => exact h.cell 0 rfl)
theorem putF_enough : ∀ (k n : Nat), n < 128 ^ (k + 1) → ∀ m, putF (k + 1 + m) n = putF (k + 1) n
  | 0, n, h, m => by
    have h1 : n < 128 := by simpa using h
    rw [show 0 + 1 + m = m + 1 by omega]
    simp [putF, h1]
  | k + 1, n, h, m => by
    rw [show k + 1 + 1 + m = (k + 1 + m) + 1 by omega]
    simp only [putF]
    split
    · rfl
    · rw [putF_enough k (n / 128) (by rw [Nat.pow_succ] at h; exact Nat.div_lt_of_lt_mul (by rw [Nat.mul_comm]; exact h)) m]
      rfl

theorem bstr_size (l : List Nat) : (bstr l).size = l.length := by simp [bstr, ByteArray.size]
theorem byt_append (a b : ByteArray) : byt (a ++ b) = byt a ++ byt b := by simp [byt, ByteArray.data_append]
theorem size_of_byt {s : ByteArray} {k n : Nat} (h : byt s = putF k n) : s.size ≤ k := by
  rw [← byt_len, h]; exact putF_len k n

set_option maxRecDepth 100000 in
set_option maxHeartbeats 4000000 in
theorem rput_aux (k : Nat) : k ≤ 9 → ∀ (n : Nat) (w : World), n < 128 ^ (k + 1) → n < 18446744073709551616 → Calls Tryd.prog 66 #[.int .u64 n] w (StrOf w (putF (k + 1) n)) := by
  induction k with
  | zero =>
    intro _ n w hn _
    have hn1 : n < 128 := by simpa using hn
    have h1 : (n : Int) < 128 := by omega
    have h2 : (n : Int) < 256 := by omega
    have hk := run_conv_one (w.alloc (.cells #[.int .u8 (n : Int)] 5)) w.heap.size n (by omega) _ (Blk.new _ _ _)
    have HN := hid hn1
    clear hn hn1
    go_enter Tryd.func66, Tryd.ntmps66
    go_wp2_with fail
    go_ret
    refine ⟨_, rfl, ?_, ext_alloc (ext_refl _) _⟩
    rw [byt_bstr (by have := HN.out; simp; omega)]
    simp [putF, HN.out]
  | succ k ih =>
    intro hk9 n w hn hlt
    by_cases hn1 : n < 128
    · have h1 : (n : Int) < 128 := by omega
      have h2 : (n : Int) < 256 := by omega
      have hk := run_conv_one (w.alloc (.cells #[.int .u8 (n : Int)] 5)) w.heap.size n (by omega) _ (Blk.new _ _ _)
      have HN := hid hn1
      clear hn hn1 ih hlt
      go_enter Tryd.func66, Tryd.ntmps66
      go_wp2_with fail
      go_ret
      refine ⟨_, rfl, ?_, ext_alloc (ext_refl _) _⟩
      rw [byt_bstr (by have := HN.out; simp; omega)]
      simp [putF, HN.out]
    · have h1 : ¬ (n : Int) < 128 := by omega
      have h3 : (n : Int) ≤ 18446744073709551615 := by omega
      have HIH := hid (ih (by omega) (n / 128))
      have HLE : Hid (n / 128 < 128 ^ (k + 1)) := hid (by rw [Nat.pow_succ] at hn; exact Nat.div_lt_of_lt_mul (by rw [Nat.mul_comm]; exact hn))
      have HN := hid hn1
      have HLT := hid hlt
      obtain ⟨x, hx⟩ : ∃ x : Nat, x = n % 128 + 128 := ⟨_, rfl⟩
      have hx2 : x < 256 := by omega
      have hxe : IntKind.u8.wrap (IntKind.u64.wrap (Int.tmod (n : Int) 128 + 128)) = (x : Int) := by
        rw [Int.tmod_eq_emod_of_nonneg (by omega), IntKind.wrap_u8, IntKind.wrap_u64]; omega
      obtain ⟨q, hq⟩ : ∃ q : Nat, q = n / 128 := ⟨_, rfl⟩
      have hqe : IntKind.u64.wrap ((n : Int) / 128) = (q : Int) := by rw [IntKind.wrap_u64]; omega
      rw [← hq] at HIH HLE
      have HQ := hid hq
      have hx3 : (x : Int) < 256 := by omega
      have hk0 := run_conv_one (w.alloc (.cells #[.int .u8 (x : Int)] 5)).drew w.heap.size x hx2 _ (Blk.drew (Blk.new _ _ _))
      have hk1 : ∀ W : World, (convert 75 9 (.slice (some ⟨W.heap.size, 0, none⟩) 1 1)).run Tryd.prog (W.alloc (.cells #[.int .u8 (x : Int)] 5)) = .ok (.string (bstr [x])) (W.alloc (.cells #[.int .u8 (x : Int)] 5)) := fun W => run_conv_one _ _ x hx2 _ (Blk.new _ _ _)
      have HX := hid hx
      have HX2 := hid hx2
      clear ih hn hlt hx hn1 hq
      go_enter Tryd.func66, Tryd.ntmps66
      go_wp2_with fail
      go_region_law (first
        | (go_simp; go_at_call 66; refine (HIH.out _ HLE.out (by have := HLT.out; have := HQ.out; omega)).mono ?_; rintro e' w1 ⟨s1, rfl, hs1, hb1⟩; have HS1 := hid hs1; have hno : ¬ (9223372036854775807 < (bstr [x]).size + s1.size) := (by have h1 := size_of_byt hs1; have h2 : (bstr [x]).size = 1 := bstr_size [x]; omega); clear hs1; first | (have hB1 : Blk w1 w.heap.size #[.int .u8 (x : Int)] 5 := Blk.below hb1 (Blk.drew (Blk.new _ _ _)); have hk2 := run_conv_one w1 w.heap.size x HX2.out _ hB1; have HB := hid hB1; clear hB1) | skip))
      all_goals
        go_wp2_with fail
        go_ret
        refine ⟨_, rfl, ?_, by repeat (first | assumption | exact ext_refl _ | refine ext_drew ?_ | refine ext_alloc ?_ _ | refine ext_trans ?_ (by assumption))⟩
        rw [byt_append, HS1.out, byt_bstr (by have := HX2.out; simpa using this), HQ.out, HX.out]
        have hz := HN.out
        simp only [putF, hz, if_false, List.singleton_append]
set_option maxRecDepth 100000 in
set_option maxHeartbeats 4000000 in
theorem rput_any (n : Nat) (w : World) (hn : n < 18446744073709551616) : Calls Tryd.prog 66 #[.int .u64 n] w (StrOf w (putN n)) :=
  rput_aux 9 (by decide) n w (Nat.lt_trans hn (by decide)) hn
end Go.Proofs.YtokkafiphchejaaDoor
