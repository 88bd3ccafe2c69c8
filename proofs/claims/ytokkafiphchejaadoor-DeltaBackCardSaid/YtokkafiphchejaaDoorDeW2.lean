/-
  Walks: Wrong, Zig.
-/
import Derived.Test.YtokkafiphchejaaDoorDeW1
import Derived.Test.YtokkafiphchejaaDoorReg7
namespace Go.Proofs.YtokkafiphchejaaDoor
set_option linter.unusedVariables false
set_option linter.unusedSimpArgs false
open Go Go.RowKit
set_option maxRecDepth 100000 in
set_option maxHeartbeats 4000000 in
theorem rWrong_any (b : Nat) (s : ByteArray) (at_ e : Nat) (w : World) (h : RdrAt w b s at_ e) : Calls Tryd.prog 24 #[.pointer (some ⟨b, 0, none⟩)] w fun e' w' => e' = .returned (.tuple #[.int .i64 (if e = 0 then 0 else (at_ : Int)), .int .i64 (e : Int)]) ∧ Below w.heap.size w w' := by
  have HH := hid h
  have c1 := Blk.cell h 1 rfl
  have c2 := Blk.cell h 2 rfl
  clear h
  by_cases h0 : e = 0
  · subst h0
    go_enter Tryd.func24, Tryd.ntmps24
    go_wp2_with fail
    go_ret2
    exact ⟨rfl, ext_refl _⟩
  · have j1 : ((e : Int) == 0) = false := beq_eq_false_iff_ne.2 (by omega)
    have j2 : (e == 0) = false := beq_eq_false_iff_ne.2 h0
    rw [if_neg h0]
    clear h0
    go_enter Tryd.func24, Tryd.ntmps24
    go_wp2_with fail
    clear c1 c2 j1 j2
    apply wp_region_valsJ [.pointer (some ⟨b, 0, none⟩), .pointer (some ⟨b, 0, none⟩), .pointer (some ⟨b, 1, none⟩), .int .i64 (at_ : Int), .pointer (some ⟨b, 0, none⟩), .pointer (some ⟨b, 0, none⟩), .pointer (some ⟨b, 2, none⟩), .int .i64 (e : Int), .int .i64 (at_ : Int), .int .i64 (e : Int)] (fun _ w' => Below w.heap.size w w')
    focus (simp [putAll, dstOf, Act.put, List.getD]; rfl)
    case hm => kernel_rfl
    case hd => kernel_rfl
    case hb => kernel_rfl
    case hdep => kernel_rfl
    case hsel => kernel_rfl
    case hng => kernel_rfl
    case hgv => kernel_rfl
    case hext => exact fun _ _ _ _ h => h
    case hsz => kernel_rfl
    case h0 => exact ext_drew (ext_refl _)
    case hstep =>
      repeat' (first | exact trivial | (refine And.intro ?_ ?_))
      all_goals (
        intro l w' hl hdp hG
        rw [if_pos (by kernel_rfl)]
        intro K Qp hK
        have d1 := Blk.cell (Blk.below hG HH.out) 1 rfl
        have d2 := Blk.cell (Blk.below hG HH.out) 2 rfl
        have HGG := hid hG
        clear hG
        go_simp
        exact hK _ HGG.out)
    case hdone =>
      intro w' hG
      have HG := hid hG
      clear hG
      go_wp2_with fail
      go_ret2
      exact ⟨rfl, HG.out⟩
theorem xor_ones (n a : Nat) (h : a < 2 ^ n) : a ^^^ (2 ^ n - 1) = 2 ^ n - 1 - a := by
  apply Nat.eq_of_testBit_eq
  intro i
  rw [Nat.testBit_xor, Nat.testBit_two_pow_sub_one, show 2 ^ n - 1 - a = 2 ^ n - (a + 1) by omega, Nat.testBit_two_pow_sub_succ h]
  by_cases hi : i < n
  · simp [hi]
  · have : a.testBit i = false := Nat.testBit_lt_two_pow (Nat.lt_of_lt_of_le h (Nat.pow_le_pow_right (by omega) (by omega)))
    simp [hi, this]
theorem zig_bits (x : Int) (hx : -9223372036854775808 ≤ x ∧ x ≤ 9223372036854775807) : bits .xor .u64 (IntKind.u64.wrap (IntKind.u64.wrap x * 2)) (IntKind.u64.wrap (x / 9223372036854775808)) = (zigZ x : Int) := by
  have hw : ∀ y : Int, IntKind.u64.wrap y = y % 18446744073709551616 := fun y => by simp [IntKind.wrap, IntKind.signed, IntKind.bits]
  rw [hw, hw, hw]
  unfold zigZ
  by_cases h0 : 0 ≤ x
  · rw [if_pos h0, show x / 9223372036854775808 % 18446744073709551616 = 0 by omega, show x % 18446744073709551616 * 2 % 18446744073709551616 = 2 * x by omega]
    obtain ⟨u, hu⟩ := Int.eq_ofNat_of_zero_le (show 0 ≤ 2 * x by omega)
    rw [hu]
    show IntKind.u64.wrap (((BitVec.ofInt 64 (u : Int)) ^^^ (BitVec.ofInt 64 ((0 : Nat) : Int))).toNat : Int) = _
    rw [BitVec.ofInt_natCast, BitVec.ofInt_natCast, BitVec.toNat_xor, BitVec.toNat_ofNat, BitVec.toNat_ofNat, Nat.mod_eq_of_lt (by omega : u < 2 ^ 64), Nat.zero_mod, Nat.xor_zero, hw]
    omega
  · rw [if_neg h0, show x / 9223372036854775808 % 18446744073709551616 = ((2 ^ 64 - 1 : Nat) : Int) by omega]
    obtain ⟨u, hu⟩ := Int.eq_ofNat_of_zero_le (show 0 ≤ x % 18446744073709551616 * 2 % 18446744073709551616 by omega)
    have hx2 := xor_ones 64 u (by omega)
    rw [hu]
    show IntKind.u64.wrap (((BitVec.ofInt 64 (u : Int)) ^^^ (BitVec.ofInt 64 ((2 ^ 64 - 1 : Nat) : Int))).toNat : Int) = _
    rw [BitVec.ofInt_natCast, BitVec.ofInt_natCast, BitVec.toNat_xor, BitVec.toNat_ofNat, BitVec.toNat_ofNat, Nat.mod_eq_of_lt (by omega : u < 2 ^ 64), Nat.mod_eq_of_lt (by omega : 2 ^ 64 - 1 < 2 ^ 64), hx2, hw]
    omega
set_option maxRecDepth 100000 in
set_option maxHeartbeats 4000000 in
theorem zig_any (x : Int) (w : World) (hx : -9223372036854775808 ≤ x ∧ x ≤ 9223372036854775807) : Calls Tryd.prog 34 #[.int .i64 x] w fun e w' => e = .returned (.int .u64 (zigZ x : Int)) ∧ w = w' := by
  go_enter Tryd.func34, Tryd.ntmps34
  go_wp2_with fail
  go_ret
  exact ⟨by rw [← zig_bits x hx]; rfl, rfl⟩
end Go.Proofs.YtokkafiphchejaaDoor
