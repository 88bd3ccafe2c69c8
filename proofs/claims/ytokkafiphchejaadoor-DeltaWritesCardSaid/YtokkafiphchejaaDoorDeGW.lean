/-
  Joined texts: DeW1 DeW2 DeB DeV3 DeV4 DeW3 DeW4 DeW5 DeW6 DeW7.
-/
import Derived.Test.YtokkafiphchejaaDoorProg
import Derived.Test.YtokkafiphchejaaDoorTurn
import Derived.Test.YtokkafiphchejaaDoorDeG0
import Derived.Test.YtokkafiphchejaaDoorReg7
import Derived.Test.YtokkafiphchejaaDoorKit
import Derived.Test.YtokkafiphchejaaDoorCrc
import Derived.Deep.QuietTactic
import Derived.BigQuiet
import Derived.RegionTactic
import Derived.Deep.CutBlock
import Derived.Test.YtokkafiphchejaaDoorVar
import Derived.Laws.BytesString
import Derived.Laws.IdiomStrings
import Derived.Lib.SlBytesConst
import Derived.WalkMore
import Derived.Deep.LoopGhost
/-
  Walks: a reader's small functions, a new writer and reader, Zig.
-/
namespace Go.Proofs.YtokkafiphchejaaDoor
set_option linter.unusedVariables false
set_option linter.unusedSimpArgs false
open Go Go.RowKit
/-- A reader in memory. -/
def RdrAt (w : World) (b : Nat) (s : ByteArray) (at_ e : Nat) : Prop := Blk w b #[.string s, .int .i64 (at_ : Int), .int .i64 (e : Int)] 93
set_option maxRecDepth 100000 in
set_option maxHeartbeats 4000000 in
theorem newReader_any (s : ByteArray) (w : World) (hs : s.size ≤ 16777216) : Calls Tryd.prog 20 #[.string s] w fun e w' => e = .returned (.tuple #[.pointer (some ⟨w.heap.size, 0, none⟩), .int .i64 0]) ∧ RdrAt w' w.heap.size s 0 0 ∧ Below w.heap.size w w' := by
  have j1 : decide ((16777216 : Int) < (s.size : Int)) = false := decide_eq_false (by omega)
  have j2 : decide (16777216 < s.size) = false := decide_eq_false (by omega)
  have j3 : wrap64 (s.size : Int) = (s.size : Int) := by unfold wrap64; omega
  have HB : Hid (Below w.heap.size w (w.alloc (.cells #[.string s, .int .i64 0, .int .i64 0] 93))) := hid (ext_alloc (ext_refl _) _)
  have HR : Hid (RdrAt (w.alloc (.cells #[.string s, .int .i64 0, .int .i64 0] 93)) w.heap.size s 0 0) := hid (Blk.new _ _ _)
  clear hs
  go_enter Tryd.func20, Tryd.ntmps20
  go_wp2_with fail
  go_ret2
  exact ⟨rfl, HR.out, HB.out⟩
set_option maxRecDepth 100000 in
set_option maxHeartbeats 4000000 in
theorem rAt_any (b : Nat) (s : ByteArray) (at_ e : Nat) (w : World) (h : RdrAt w b s at_ e) : Calls Tryd.prog 26 #[.pointer (some ⟨b, 0, none⟩)] w fun e' w' => e' = .returned (.int .i64 (at_ : Int)) ∧ w = w' := by
  have c1 := Blk.cell h 1 rfl
  clear h
  go_enter Tryd.func26, Tryd.ntmps26
  go_wp2_with fail
  go_ret
  exact ⟨rfl, rfl⟩
set_option maxRecDepth 100000 in
set_option maxHeartbeats 4000000 in
theorem newWriter_any (m : Int) (w : World) (hm : 0 ≤ m ∧ m ≤ 16777216) : Calls Tryd.prog 11 #[.int .i64 m] w fun e w' => e = .returned (.tuple #[.pointer (some ⟨w.heap.size, 0, none⟩), .int .i64 0]) ∧ Blk w' w.heap.size #[.int .i64 m, .slice none 0 0] 77 ∧ Below w.heap.size w w' := by
  have j1 : decide (m < 0) = false := decide_eq_false (by omega)
  have j2 : decide (16777216 < m) = false := decide_eq_false (by omega)
  have HB : Hid (Below w.heap.size w (w.alloc (.cells #[.int .i64 m, .slice none 0 0] 77))) := hid (ext_alloc (ext_refl _) _)
  have HR : Hid (Blk (w.alloc (.cells #[.int .i64 m, .slice none 0 0] 77)) w.heap.size #[.int .i64 m, .slice none 0 0] 77) := hid (Blk.new _ _ _)
  clear hm
  go_enter Tryd.func11, Tryd.ntmps11
  go_wp2_with fail
  go_ret2
  exact ⟨rfl, HR.out, HB.out⟩
set_option maxRecDepth 100000 in
set_option maxHeartbeats 4000000 in
theorem newWriter_bad (m : Int) (w : World) (hm : m < 0 ∨ 16777216 < m) : Calls Tryd.prog 11 #[.int .i64 m] w fun e w' => e = .returned (.tuple #[.pointer none, .int .i64 1]) ∧ w = w' := by
  by_cases h0 : m < 0
  · have j1 : decide (m < 0) = true := decide_eq_true h0
    clear hm h0
    go_enter Tryd.func11, Tryd.ntmps11
    go_wp2_with fail
    go_ret2
    exact ⟨rfl, rfl⟩
  · have j1 : decide (m < 0) = false := decide_eq_false h0
    have j2 : decide (16777216 < m) = true := decide_eq_true (by omega)
    clear hm h0
    go_enter Tryd.func11, Tryd.ntmps11
    go_wp2_with fail
    go_ret2
    exact ⟨rfl, rfl⟩
end Go.Proofs.YtokkafiphchejaaDoor
/-
  Walks: Wrong, Zig.
-/
namespace Go.Proofs.YtokkafiphchejaaDoor
set_option linter.unusedVariables false
set_option linter.unusedSimpArgs false
open Go Go.RowKit
set_option maxRecDepth 100000 in
set_option maxHeartbeats 4000000 in
theorem rWrong_any (b : Nat) (s : ByteArray) (at_ e : Nat) (w : World) (h : RdrAt w b s at_ e) : Calls Tryd.prog 24 #[.pointer (some ⟨b, 0, none⟩)] w fun e' w' => e' = .returned (.tuple #[.int .i64 (if e = 0 then 0 else (at_ : Int)), .int .i64 (e : Int)]) ∧ Below w.heap.size w w' := by
  have HH := hid h
  have c1 := Blk.cell h 1 rfl
  have c2 := Blk.cell h 2 rfl
  clear h
  by_cases h0 : e = 0
  · subst h0
    go_enter Tryd.func24, Tryd.ntmps24
    go_wp2_with fail
    go_ret2
    exact ⟨rfl, ext_refl _⟩
  · have j1 : ((e : Int) == 0) = false := beq_eq_false_iff_ne.2 (by omega)
    have j2 : (e == 0) = false := beq_eq_false_iff_ne.2 h0
    rw [if_neg h0]
    clear h0
    go_enter Tryd.func24, Tryd.ntmps24
    go_wp2_with fail
    clear c1 c2 j1 j2
    apply wp_region_valsJ [.pointer (some ⟨b, 0, none⟩), .pointer (some ⟨b, 0, none⟩), .pointer (some ⟨b, 1, none⟩), .int .i64 (at_ : Int), .pointer (some ⟨b, 0, none⟩), .pointer (some ⟨b, 0, none⟩), .pointer (some ⟨b, 2, none⟩), .int .i64 (e : Int), .int .i64 (at_ : Int), .int .i64 (e : Int)] (fun _ w' => Below w.heap.size w w')
    focus (simp [putAll, dstOf, Act.put, List.getD]; rfl)
    case hm => kernel_rfl
    case hd => kernel_rfl
    case hb => kernel_rfl
    case hdep => kernel_rfl
    case hsel => kernel_rfl
    case hng => kernel_rfl
    case hgv => kernel_rfl
    case hext => exact fun _ _ _ _ h => h
    case hsz => kernel_rfl
    case h0 => exact ext_drew (ext_refl _)
    case hstep =>
      repeat' (first | exact trivial | (refine And.intro ?_ ?_))
      all_goals (
        intro l w' hl hdp hG
        rw [if_pos (by kernel_rfl)]
        intro K Qp hK
        have d1 := Blk.cell (Blk.below hG HH.out) 1 rfl
        have d2 := Blk.cell (Blk.below hG HH.out) 2 rfl
        have HGG := hid hG
        clear hG
        go_simp
        exact hK _ HGG.out)
    case hdone =>
      intro w' hG
      have HG := hid hG
      clear hG
      go_wp2_with fail
      go_ret2
      exact ⟨rfl, HG.out⟩
theorem xor_ones (n a : Nat) (h : a < 2 ^ n) : a ^^^ (2 ^ n - 1) = 2 ^ n - 1 - a := by
  apply Nat.eq_of_testBit_eq
  intro i
  rw [Nat.testBit_xor, Nat.testBit_two_pow_sub_one, show 2 ^ n - 1 - a = 2 ^ n - (a + 1) by omega, Nat.testBit_two_pow_sub_succ h]
  by_cases hi : i < n
  · simp [hi]
  · have : a.testBit i = false := Nat.testBit_lt_two_pow (Nat.lt_of_lt_of_le h (Nat.pow_le_pow_right (by omega) (by omega)))
    simp [hi, this]
theorem zig_bits (x : Int) (hx : -9223372036854775808 ≤ x ∧ x ≤ 9223372036854775807) : bits .xor .u64 (IntKind.u64.wrap (IntKind.u64.wrap x * 2)) (IntKind.u64.wrap (x / 9223372036854775808)) = (zigZ x : Int) := by
  have hw : ∀ y : Int, IntKind.u64.wrap y = y % 18446744073709551616 := fun y => by simp [IntKind.wrap, IntKind.signed, IntKind.bits]
  rw [hw, hw, hw]
  unfold zigZ
  by_cases h0 : 0 ≤ x
  · rw [if_pos h0, show x / 9223372036854775808 % 18446744073709551616 = 0 by omega, show x % 18446744073709551616 * 2 % 18446744073709551616 = 2 * x by omega]
    obtain ⟨u, hu⟩ := Int.eq_ofNat_of_zero_le (show 0 ≤ 2 * x by omega)
    rw [hu]
    show IntKind.u64.wrap (((BitVec.ofInt 64 (u : Int)) ^^^ (BitVec.ofInt 64 ((0 : Nat) : Int))).toNat : Int) = _
    rw [BitVec.ofInt_natCast, BitVec.ofInt_natCast, BitVec.toNat_xor, BitVec.toNat_ofNat, BitVec.toNat_ofNat, Nat.mod_eq_of_lt (by omega : u < 2 ^ 64), Nat.zero_mod, Nat.xor_zero, hw]
    omega
  · rw [if_neg h0, show x / 9223372036854775808 % 18446744073709551616 = ((2 ^ 64 - 1 : Nat) : Int) by omega]
    obtain ⟨u, hu⟩ := Int.eq_ofNat_of_zero_le (show 0 ≤ x % 18446744073709551616 * 2 % 18446744073709551616 by omega)
    have hx2 := xor_ones 64 u (by omega)
    rw [hu]
    show IntKind.u64.wrap (((BitVec.ofInt 64 (u : Int)) ^^^ (BitVec.ofInt 64 ((2 ^ 64 - 1 : Nat) : Int))).toNat : Int) = _
    rw [BitVec.ofInt_natCast, BitVec.ofInt_natCast, BitVec.toNat_xor, BitVec.toNat_ofNat, BitVec.toNat_ofNat, Nat.mod_eq_of_lt (by omega : u < 2 ^ 64), Nat.mod_eq_of_lt (by omega : 2 ^ 64 - 1 < 2 ^ 64), hx2, hw]
    omega
set_option maxRecDepth 100000 in
set_option maxHeartbeats 4000000 in
theorem zig_any (x : Int) (w : World) (hx : -9223372036854775808 ≤ x ∧ x ≤ 9223372036854775807) : Calls Tryd.prog 34 #[.int .i64 x] w fun e w' => e = .returned (.int .u64 (zigZ x : Int)) ∧ w = w' := by
  go_enter Tryd.func34, Tryd.ntmps34
  go_wp2_with fail
  go_ret
  exact ⟨by rw [← zig_bits x hx]; rfl, rfl⟩
end Go.Proofs.YtokkafiphchejaaDoor
/-
  Texts and bytes (out of FrW1 and FrW2: what names no function).
-/
namespace Go.Proofs.YtokkafiphchejaaDoor
set_option linter.unusedVariables false
set_option linter.unusedSimpArgs false
open Go Go.RowKit
def byt (s : ByteArray) : List Nat := s.data.toList.map UInt8.toNat
theorem byt_lt (s : ByteArray) : ∀ c ∈ byt s, c < 256 := by
  intro c hc
  obtain ⟨u, -, rfl⟩ := List.mem_map.1 hc
  exact u.toNat_lt
theorem byt_len (s : ByteArray) : (byt s).length = s.size := by simp [byt]

theorem byt_take (s : ByteArray) (k : Nat) (h : k < s.size) : (byt s).take (k + 1) = (byt s).take k ++ [s[k].toNat] := by
  unfold byt
  rw [← List.map_take, List.take_succ_eq_append_getElem (by simpa using h), List.map_append, List.map_take]
  rfl
/-- A text came back, whose bytes are these. -/
def StrOf (w : World) (l : List Nat) (e : Ending) (w' : World) : Prop := ∃ s : ByteArray, e = .returned (.string s) ∧ byt s = l ∧ Below w.heap.size w w'
theorem byt_inj {s t : ByteArray} (h : byt s = byt t) : s = t := by
  cases s with | mk a => cases t with | mk b =>
  congr 1
  have hi : Function.Injective UInt8.toNat := fun x y h => UInt8.toNat_inj.1 h
  have := (List.map_inj_right (fun x y h => hi h)).1 h
  exact Array.toList_inj.1 this
theorem byt_mk (l : List UInt8) : byt ⟨l.toArray⟩ = l.map UInt8.toNat := by simp [byt]

/-- The text of some bytes. -/
def bstr (l : List Nat) : ByteArray := ⟨(l.map UInt8.ofNat).toArray⟩
theorem byt_bstr {l : List Nat} (h : ∀ c ∈ l, c < 256) : byt (bstr l) = l := by
  unfold bstr
  rw [byt_mk, List.map_map]
  conv => rhs; rw [← List.map_id l]
  refine List.map_congr_left fun c hc => ?_
  simp [UInt8.toNat_ofNat', Nat.mod_eq_of_lt (h c hc)]
theorem bstr_byt (s : ByteArray) : bstr (byt s) = s := byt_inj (byt_bstr (byt_lt s))
theorem run_conv_bytes (w : World) (b o cap : Nat) (l : List Nat) (hl : ∀ c ∈ l, c < 256) (hc : ∀ j (h : j < l.length), w.cell? ⟨b, o + j, none⟩ = some (.int .u8 (l[j] : Int))) :
    (convert 75 9 (.slice (some ⟨b, o, none⟩) l.length cap)).run Tryd.prog w = .ok (.string (bstr l)) w := by
  have h := run_convert_bytes_back (P := Tryd.prog) w 75 9 5 ⟨b, o, none⟩ cap (l.map UInt8.ofNat) Tryd.underlying75 Tryd.underlying5 Tryd.underlying9 (fun j hj => by
    have hj' : j < l.length := by simpa using hj
    have e1 : (⟨b, o, none⟩ : Addr).add j = ⟨b, o + j, none⟩ := by
      unfold Addr.add; split
      · rename_i h; subst h; simp
      · rfl
    rw [e1, hc j hj']
    have := hl l[j] (List.getElem_mem hj')
    simp [UInt8.toNat_ofNat', Nat.mod_eq_of_lt this])
  simpa [bstr] using h
end Go.Proofs.YtokkafiphchejaaDoor
/-
  Walks: numbers as bytes: varint.Put.
-/
namespace Go.Proofs.YtokkafiphchejaaDoor
set_option linter.unusedVariables false
open Go Go.RowKit

theorem or128 (x : Nat) (h : x < 256) : bits .or .u8 (x : Int) 128 = ((x % 128 + 128 : Nat) : Int) := by
  have key : ∀ y : Fin 256, bits .or .u8 ((y.1 : Nat) : Int) 128 = ((y.1 % 128 + 128 : Nat) : Int) := by decide +kernel
  exact key ⟨x, h⟩
theorem andn128 (x : Nat) (h : x < 256) : bits .andNot .u8 (x : Int) 128 = ((x % 128 : Nat) : Int) := by
  have key : ∀ y : Fin 256, bits .andNot .u8 ((y.1 : Nat) : Int) 128 = ((y.1 % 128 : Nat) : Int) := by decide +kernel
  exact key ⟨x, h⟩
theorem and128 (x : Nat) (h : x < 256) : bits .and .u8 (x : Int) 128 = if x < 128 then 0 else 128 := by
  have key : ∀ y : Fin 256, bits .and .u8 ((y.1 : Nat) : Int) 128 = if y.1 < 128 then 0 else 128 := by decide +kernel
  exact key ⟨x, h⟩

/-- Ten cells: some bytes, and zeros behind. -/
def row10 (pre : List Nat) : Array Value := ((pre ++ List.replicate (10 - pre.length) 0).map fun (c : Nat) => Value.int .u8 (c : Int)).toArray
theorem row10_set (pre : List Nat) (c : Nat) (h : pre.length < 10) : (row10 pre).setIfInBounds pre.length (.int .u8 (c : Int)) = row10 (pre ++ [c]) := by
  unfold row10
  rw [List.setIfInBounds_toArray]
  congr 1
  have e : 10 - pre.length = (10 - (pre ++ [c]).length) + 1 := by simp; omega
  rw [e, List.replicate_succ, List.map_append, List.set_append_right _ _ (by simp)]
  simp
theorem row10_last (pre : List Nat) (c d : Nat) (h : pre.length < 10) : (row10 (pre ++ [c])).setIfInBounds pre.length (.int .u8 (d : Int)) = row10 (pre ++ [d]) := by
  rw [← row10_set pre c h, Array.setIfInBounds_setIfInBounds, row10_set pre d h]
theorem row10_at (pre : List Nat) (j : Nat) (h : j < pre.length) : (row10 pre)[j]? = some (.int .u8 (pre[j] : Int)) := by
  unfold row10
  simp [List.getElem?_append_left, h]
theorem row10_new : row10 [] = #[.int .u8 0, .int .u8 0, .int .u8 0, .int .u8 0, .int .u8 0, .int .u8 0, .int .u8 0, .int .u8 0, .int .u8 0, .int .u8 0] := rfl
theorem row10_zero (pre : List Nat) (h : pre.length < 10) : (row10 pre)[pre.length]? = some (.int .u8 0) := by
  unfold row10
  obtain ⟨m, hm⟩ : ∃ m, 10 - pre.length = m + 1 := ⟨9 - pre.length, by omega⟩
  rw [hm, List.replicate_succ]
  simp

set_option maxRecDepth 100000 in
set_option maxHeartbeats 4000000 in
theorem vput_any (n0 : Nat) (w : World) (hn : n0 < 18446744073709551616) : Calls Tryd.prog 32 #[.int .u64 n0] w (StrOf w (putN n0)) := by
  have HN := hid hn
  clear hn
  go_enter Tryd.func32, Tryd.ntmps32
  go_wp2_with fail
  go_step3
  go_wp2_with fail
  go_step3
  go_wp2_with fail
  have hB0 : Blk (w.alloc (.cells #[.int .u8 0, .int .u8 0, .int .u8 0, .int .u8 0, .int .u8 0, .int .u8 0, .int .u8 0, .int .u8 0, .int .u8 0, .int .u8 0] 106)) w.heap.size (row10 []) 106 := by rw [row10_new]; exact Blk.new _ _ _
  have hA := ext_alloc (ext_refl w) (.cells #[.int .u8 0, .int .u8 0, .int .u8 0, .int .u8 0, .int .u8 0, .int .u8 0, .int .u8 0, .int .u8 0, .int .u8 0, .int .u8 0] 106)
  go_loopw [0, 4] (fun n i wr => ∃ (pre : List Nat) (cur : Nat), pre.length ≤ 9 ∧ i = .int .i64 pre.length ∧ n = .int .u64 cur ∧ Hid (putN n0 = pre ++ putF (10 - pre.length) cur ∧ cur < 2 ^ (64 - 7 * pre.length) ∧ ∀ c ∈ pre, c < 256) ∧
    Hid (Blk wr w.heap.size (row10 pre) 106) ∧ Below w.heap.size w wr) (fun _ i _ => 10 - (intOf i).toNat)
  case atStart => exact ⟨[], n0, by simp, rfl, rfl, hid ⟨rfl, by simpa using HN.out, by simp⟩, hid hB0, hA⟩
  case round =>
    obtain ⟨pre, cur, hk, rfl, rfl, HP, HB, hb⟩ := hrel
    clear hB0 hA
    have hcur : cur < 18446744073709551616 := Nat.lt_of_lt_of_le HP.out.2.1 (by
      have := Nat.pow_le_pow_right (n := 2) (by decide) (show 64 - 7 * pre.length ≤ 64 by omega)
      simpa using this)
    have c0 := HB.out.cell pre.length (v := .int .u8 0) (row10_zero pre (by omega))
    have f0 := HB.out.free pre.length
    have hb0 := HB.out.lt
    have hpos : (0 : Int) ≤ (pre.length : Int) := by omega
    have hk' : (pre.length : Int) ≤ 9 := by omega
    have hk2 : (pre.length : Int) + 1 ≤ 10 := by omega
    have hk3 : (0 : Int) ≤ (pre.length : Int) + 1 := by omega
    obtain ⟨v, hv⟩ : ∃ v : Nat, v = cur % 128 + 128 := ⟨_, rfl⟩
    have hor : bits .or .u8 ((cur : Int) % 256) 128 = (v : Int) := by
      have := or128 (cur % 256) (by omega)
      rw [show ((cur % 256 : Nat) : Int) = (cur : Int) % 256 by omega] at this
      rw [this, hv]
      congr 2
      omega
    have HC := hid hcur
    have HV := hid hv
    have hv1 : (v : Int) ≤ 255 := by omega
    by_cases hz : cur < 128
    · have han : bits .andNot .u8 (v : Int) 128 = (cur : Int) := by
        rw [andn128 v (by omega), hv]
        congr 1
        omega
      have ht : ((cur : Int) / 128 == 0) = true := by rw [beq_iff_eq]; omega
      have hc1 : (cur : Int) ≤ 127 := by omega
      have hor : bits .or .u8 (cur : Int) 128 = (v : Int) := by
        rw [or128 cur (by omega), hv]
      have HZ := hid hz
      clear hz hv hcur
      go_wp2_with fail
      have hfin : Blk ((wr.setCell ⟨w.heap.size, pre.length, none⟩ (.int .u8 v)).setCell ⟨w.heap.size, pre.length, none⟩ (.int .u8 cur)) w.heap.size (row10 (pre ++ [cur])) 106 := by
        have h := (HB.out.set pre.length (.int .u8 v)).set pre.length (.int .u8 cur)
        rw [row10_set pre v (by omega), row10_last pre v cur (by omega)] at h
        exact h
      have hput : putN n0 = pre ++ [cur] := by
        obtain ⟨m, hm⟩ : ∃ m, 10 - pre.length = m + 1 := ⟨9 - pre.length, by omega⟩
        rw [HP.out.1, hm]
        simp [putF, HZ.out]
      have hby : ∀ c ∈ pre ++ [cur], c < 256 := by
        intro c hc
        rcases List.mem_append.1 hc with h | h
        · exact HP.out.2.2 c h
        · simp at h; have := HZ.out; omega
      have hcv := run_conv_bytes _ w.heap.size 0 10 (pre ++ [cur]) hby (fun j hj => by rw [Nat.zero_add]; exact hfin.cell j (row10_at (pre ++ [cur]) j hj))
      rw [show (pre ++ [cur]).length = pre.length + 1 by simp] at hcv
      rw [hcv]
      have HPUT := hid hput
      clear hcv hfin hput
      go_wp2_with fail
      try rw [Exit.noGoto_ret]
      go_ret
      exact ⟨_, rfl, by rw [byt_bstr hby, HPUT.out], ext_set (ext_set hb (Nat.le_refl _) _) (Nat.le_refl _) _⟩
    · have ht : ((cur : Int) / 128 == 0) = false := by rw [beq_eq_false_iff_ne]; omega
      have HZ := hid hz
      clear hz hv
      have hc1 : (cur : Int) ≤ 18446744073709551615 := by omega
      clear hcur
      go_wp2_with fail
      go_roundw
      case rel =>
        refine ⟨pre ++ [v], cur / 128, ?_, by simp, by go_num, ?_, hid ?_, ext_set hb (Nat.le_refl _) _⟩
        · simp
          rcases Nat.lt_or_ge pre.length 9 with h | h
          · omega
          · have h9 : pre.length = 9 := by omega
            have h2 := HP.out.2.1
            rw [h9] at h2
            have := HZ.out
            omega
        · obtain ⟨m, hm⟩ : ∃ m, 10 - pre.length = m + 1 := ⟨9 - pre.length, by omega⟩
          have hz := HZ.out
          refine hid ⟨?_, ?_, ?_⟩
          · rw [HP.out.1, hm, show 10 - (pre ++ [v]).length = m by simp; omega]
            simp only [putF, hz, if_false, HV.out, List.append_assoc, List.singleton_append]
          · have h2 := HP.out.2.1
            have h8 : pre.length < 9 := by
              rcases Nat.lt_or_ge pre.length 9 with h | h
              · exact h
              · have h9 : pre.length = 9 := by omega
                rw [h9] at h2
                omega
            have e : 64 - 7 * pre.length = (64 - 7 * (pre ++ [v]).length) + 7 := by simp; omega
            rw [e, Nat.pow_add] at h2
            exact Nat.div_lt_of_lt_mul (by rw [Nat.mul_comm]; exact h2)
          · intro c hc
            rcases List.mem_append.1 hc with h | h
            · exact HP.out.2.2 c h
            · simp at h; have := HV.out; omega
        · have h := HB.out.set pre.length (.int .u8 v)
          rwa [row10_set pre v (by omega)] at h
      case measure => simp [intOf]; omega
end Go.Proofs.YtokkafiphchejaaDoor
/-
  Walks: numbers out of bytes: varint.Get, and the document's.
-/
namespace Go.Proofs.YtokkafiphchejaaDoor
set_option linter.unusedVariables false
open Go Go.RowKit

theorem byt_get (s : ByteArray) (i : Nat) (h : i < s.size) : (byt s).drop i = s[i].toNat :: (byt s).drop (i + 1) := by
  have hl : i < (byt s).length := by rw [byt_len]; exact h
  rw [List.drop_eq_getElem_cons hl]
  congr 1
  simp [byt]
  rfl
theorem byt_end (s : ByteArray) : (byt s).drop s.size = [] := List.drop_eq_nil_of_le (by rw [byt_len]; exact Nat.le_refl _)
theorem pow128 (k : Nat) : 128 ^ k = 2 ^ (7 * k) := by rw [Nat.pow_mul]
theorem or_shift (acc k c : Nat) (hc : c < 256) (ha : acc < 128 ^ k) (hk : k ≤ 9) (h9 : k = 9 → c ≤ 1) :
    bits .or .u64 (acc : Int) (IntKind.u64.wrap (IntKind.u64.wrap (bits .andNot .u8 (c : Int) 128) * 2 ^ (7 * k))) = ((acc + c % 128 * 128 ^ k : Nat) : Int) := by
  rw [andn128 c hc, pow128] at *
  have hp : 2 ^ (7 * k) ≤ 2 ^ 63 := Nat.pow_le_pow_right (by decide) (by omega)
  have hd : c % 128 * 2 ^ (7 * k) < 2 ^ 64 := by
    by_cases h : k = 9
    · subst h
      have := h9 rfl
      have : c % 128 ≤ 1 := by omega
      calc c % 128 * 2 ^ (7 * 9) ≤ 1 * 2 ^ (7 * 9) := Nat.mul_le_mul_right _ this
        _ < 2 ^ 64 := by decide
    · have h2 : 2 ^ (7 * k) ≤ 2 ^ 56 := Nat.pow_le_pow_right (by decide) (by omega)
      calc c % 128 * 2 ^ (7 * k) ≤ 127 * 2 ^ 56 := Nat.mul_le_mul (by omega) h2
        _ < 2 ^ 64 := by decide
  have p63 : (2 : Nat) ^ 63 = 9223372036854775808 := by decide
  have p64 : (2 : Nat) ^ 64 = 18446744073709551616 := by decide
  rw [p63] at hp
  rw [p64] at hd
  have e1 : IntKind.u64.wrap ((c % 128 : Nat) : Int) = ((c % 128 : Nat) : Int) := by rw [IntKind.wrap_u64]; omega
  have e2 : ((c % 128 : Nat) : Int) * 2 ^ (7 * k) = ((c % 128 * 2 ^ (7 * k) : Nat) : Int) := by simp
  rw [e1, e2]
  generalize hq : c % 128 * 2 ^ (7 * k) = q at *
  have e3 : IntKind.u64.wrap (q : Int) = (q : Int) := by rw [IntKind.wrap_u64]; omega
  rw [e3, u64_or_nat _ _ (by omega) hd]
  congr 1
  rw [← hq, Nat.or_comm, Nat.mul_comm (c % 128), ← Nat.two_pow_add_eq_or_of_lt ha, Nat.add_comm]
theorem get_step {l bs : List Nat} {m k acc c : Nat} (h : getN l = getF (m + 1) k acc (128 ^ k) (c :: bs)) (h9 : k = 9 → c ≤ 1) (hc : 128 ≤ c) : getN l = getF m (k + 1) (acc + c % 128 * 128 ^ k) (128 ^ (k + 1)) bs ∨ 256 ≤ c := by
  rcases Nat.lt_or_ge c 256 with h2 | h2
  · left
    have e1 : ¬ (k = 9 ∧ 1 < c) := fun ⟨h3, h4⟩ => by have := h9 h3; omega
    have e2 : ¬ c < 128 := by omega
    rw [h]
    simp only [getF, e1, e2, if_false]
    rw [show c - 128 = c % 128 by omega, Nat.pow_succ]
  · exact Or.inr h2

set_option maxRecDepth 100000 in
set_option maxHeartbeats 4000000 in
theorem get_any (s : ByteArray) (w : World) (hs : s.size ≤ 9223372036854775807) : Calls Tryd.prog 70 #[.string s] w fun e' w' =>
    e' = .returned (.tuple #[.int .u64 (getN (byt s)).1, .int .i64 (getN (byt s)).2.1, .int .i64 (getN (byt s)).2.2]) ∧ w = w' := by
  go_enter Tryd.func70, Tryd.ntmps70
  go_wp2_with fail
  go_loop [2, 6] (fun n i => ∃ (k acc : Nat), k ≤ 10 ∧ k ≤ s.size ∧ i = .int .i64 k ∧ n = .int .u64 acc ∧ Hid (getN (byt s) = getF (10 - k) k acc (128 ^ k) ((byt s).drop k) ∧ acc < 128 ^ k)) (fun _ i => 10 - (intOf i).toNat)
  case atStart => exact ⟨0, 0, by omega, by omega, rfl, rfl, hid ⟨by simp [getN], by simp⟩⟩
  case round =>
    obtain ⟨k, acc, hk, hks, rfl, rfl, HG⟩ := hrel
    by_cases hlt : k < 10
    · obtain ⟨m, hm⟩ : ∃ m, 10 - k = m + 1 := ⟨9 - k, by omega⟩
      by_cases hend : k = s.size
      · have ht : ((k : Int) == (s.size : Int)) = true := by rw [beq_iff_eq]; omega
        have hG : getN (byt s) = (0, 0, 8) := by
          rw [HG.out.1, hm, hend, byt_end]; rfl
        have HG := hid hG
        clear hend hG hm
        go_wp2_with fail
        go_ret3
        rw [HG.out]
        exact ⟨rfl, rfl⟩
      · have hks2 : k < s.size := by omega
        have ht : ((k : Int) == (s.size : Int)) = false := by rw [beq_eq_false_iff_ne]; omega
        have hG := HG.out.1
        rw [byt_get s k hks2, hm] at hG
        have HA := hid HG.out.2
        have HM := hid hm
        have hc := s[k].toNat_lt
        have hpos : (0 : Int) ≤ (k : Int) := by omega
        have hk9 : (k : Int) ≤ 9 := by omega
        have h7 : (7 * (k : Int)) ≤ 63 := by omega
        have h70 : (0 : Int) ≤ 7 * (k : Int) := by omega
        have HGG := hid hG
        clear HG hm hend hG
        by_cases herr : k = 9 ∧ 1 < s[k].toNat
        · have g1 : ((k : Int) == 9) = true := by rw [beq_iff_eq]; omega
          have g2 : (1 : Int) < (s[k].toNat : Int) := by omega
          have HE : Hid (getN (byt s) = (0, 0, 20)) := hid (by rw [HGG.out]; simp only [getF]; rw [if_pos herr])
          clear herr
          go_wp2_with fail
          go_ret3
          rw [HE.out]
          exact ⟨rfl, rfl⟩
        · have h9 : k = 9 → s[k].toNat ≤ 1 := fun h => by omega
          have hOR := or_shift acc k s[k].toNat hc HA.out (by omega) h9
          obtain ⟨a2, ha2⟩ : ∃ a2 : Nat, a2 = acc + s[k].toNat % 128 * 128 ^ k := ⟨_, rfl⟩
          rw [← ha2] at hOR
          have HA2 := hid ha2
          have H9 := hid h9
          clear ha2 h9
          have hp : ((k : Int) == 9) = false ∨ (((k : Int) == 9) = true ∧ ¬ ((1 : Int) < (s[k].toNat : Int))) := by
            by_cases h : k = 9
            · exact Or.inr ⟨by rw [beq_iff_eq]; omega, by have := H9.out h; omega⟩
            · exact Or.inl (by rw [beq_eq_false_iff_ne]; omega)
          have HERR := hid herr
          clear herr
          rcases hp with hp | ⟨hp, hp2⟩
          all_goals
            by_cases hge : 128 ≤ s[k].toNat
            · have hand : bits .and .u8 (s[k].toNat : Int) 128 = 128 := by rw [and128 _ hc, if_neg (by omega)]
              have HST := hid ((get_step HGG.out H9.out hge).resolve_right (by omega))
              have HGE := hid hge
              clear hge
              go_wp2_with fail
              go_round
              case rel => exact ⟨k + 1, a2, by omega, by omega, by go_num, rfl, hid ⟨by rw [HST.out, show 10 - (k + 1) = m by have := HM.out; omega, HA2.out], by
                have h1 := HA.out
                rw [HA2.out, Nat.pow_succ]
                have h2 : s[k].toNat % 128 * 128 ^ k ≤ 127 * 128 ^ k := Nat.mul_le_mul_right _ (by omega)
                omega⟩⟩
              case measure => simp [intOf]; omega
            · have hand : bits .and .u8 (s[k].toNat : Int) 128 = 0 := by rw [and128 _ hc, if_pos (by omega)]
              have hlt7 : s[k].toNat < 128 := by omega
              have HLT := hid hlt7
              by_cases hw : 0 < k ∧ s[k].toNat = 0
              · have g3 : (0 : Int) < (k : Int) := by omega
                have g4 : ((s[k].toNat : Int) == 0) = true := by rw [beq_iff_eq]; omega
                have HE : Hid (getN (byt s) = (0, 0, 11)) := hid (by rw [HGG.out]; simp only [getF]; rw [if_neg HERR.out, if_pos hlt7, if_pos ⟨hw.2, hw.1⟩])
                clear hw hge hlt7
                go_wp2_with fail
                go_ret3
                rw [HE.out]
                exact ⟨rfl, rfl⟩
              · have HE : Hid (getN (byt s) = (a2, k + 1, 0)) := hid (by
                  rw [HGG.out]; simp only [getF]
                  rw [if_neg HERR.out, if_pos hlt7, if_neg (fun h => hw ⟨h.2, h.1⟩), HA2.out, Nat.mod_eq_of_lt hlt7])
                have hpq : (¬ ((0 : Int) < (k : Int)) ∧ decide (0 < k) = false) ∨ ((0 : Int) < (k : Int) ∧ ((s[k].toNat : Int) == 0) = false) := by
                  by_cases h : 0 < k
                  · exact Or.inr ⟨by omega, by rw [beq_eq_false_iff_ne]; omega⟩
                  · exact Or.inl ⟨by omega, by simp; omega⟩
                clear hw hge hlt7
                rcases hpq with ⟨hq, hq2⟩ | ⟨hq, hq2⟩
                all_goals
                  go_wp2_with fail
                  go_ret3
                  rw [HE.out]
                  exact ⟨by simp, rfl⟩
    · obtain rfl : k = 10 := by omega
      have HE : Hid (getN (byt s) = (0, 0, 20)) := hid (by rw [HG.out.1]; simp only [Nat.sub_self, getF])
      go_wp2_with fail
      go_ret3
      rw [HE.out]
      exact ⟨rfl, rfl⟩

theorem ret_three {k1 k2 k3 : IntKind} {a b c d e f : Int} (h1 : a = b) (h2 : c = d) (h3 : e = f) : Ending.returned (.tuple #[.int k1 a, .int k2 c, .int k3 e]) = .returned (.tuple #[.int k1 b, .int k2 d, .int k3 f]) := by rw [h1, h2, h3]
theorem get_room {acc k c : Nat} (hc : c < 256) (h1 : acc < 128 ^ k) (hk : k ≤ 9) (h9 : k = 9 → c ≤ 1) : c % 128 * 128 ^ k < 18446744073709551616 ∧ acc + c % 128 * 128 ^ k < 18446744073709551616 ∧ 128 ^ k ≤ 9223372036854775808 := by
  have p63 : (128 : Nat) ^ 9 = 9223372036854775808 := by decide
  have p56 : (128 : Nat) ^ 8 = 72057594037927936 := by decide
  by_cases h : k = 9
  · have h2 := h9 h
    rw [h, p63] at h1 ⊢
    have : c % 128 ≤ 1 := by omega
    have h3 : c % 128 * 9223372036854775808 ≤ 1 * 9223372036854775808 := Nat.mul_le_mul_right _ this
    omega
  · have h2 : 128 ^ k ≤ 128 ^ 8 := Nat.pow_le_pow_right (by decide) (by omega)
    rw [p56] at h2
    have h3 : c % 128 * 128 ^ k ≤ 127 * 72057594037927936 := Nat.mul_le_mul (by omega) h2
    omega
theorem get_unit {k uu : Nat} (h : uu = 128 ^ k) : ∃ u2 : Nat, IntKind.u64.wrap ((uu : Int) * 128) = (u2 : Int) ∧ (k + 1 < 10 → u2 = 128 ^ (k + 1)) := by
  refine ⟨uu * 128 % 18446744073709551616, by rw [IntKind.wrap_u64]; omega, fun hk => ?_⟩
  have p63 : (128 : Nat) ^ 9 = 9223372036854775808 := by decide
  have h2 : 128 ^ (k + 1) ≤ 128 ^ 9 := Nat.pow_le_pow_right (by decide) (by omega)
  rw [p63] at h2
  rw [h, ← Nat.pow_succ, Nat.mod_eq_of_lt (by omega)]

set_option maxRecDepth 100000 in
set_option maxHeartbeats 4000000 in
theorem rget_any (s : ByteArray) (w : World) (hs : s.size ≤ 9223372036854775807) : Calls Tryd.prog 78 #[.string s] w fun e' w' =>
    e' = .returned (.tuple #[.int .u64 (getN (byt s)).1, .int .i64 (getN (byt s)).2.1, .int .i64 (getN (byt s)).2.2]) ∧ w = w' := by
  go_enter Tryd.func78, Tryd.ntmps78
  go_wp2_with fail
  go_loop [5, 6, 7] (fun n u i => ∃ (k acc : Nat), k ≤ 10 ∧ k ≤ s.size ∧ i = .int .i64 k ∧ n = .int .u64 acc ∧ (∃ uu : Nat, u = .int .u64 uu ∧ Hid (k < 10 → uu = 128 ^ k)) ∧ Hid (getN (byt s) = getF (10 - k) k acc (128 ^ k) ((byt s).drop k) ∧ acc < 128 ^ k)) (fun _ _ i => 10 - (intOf i).toNat)
  case atStart => exact ⟨0, 0, by omega, by omega, rfl, rfl, ⟨1, rfl, hid (by simp)⟩, hid ⟨by simp [getN], by simp⟩⟩
  case round =>
    obtain ⟨k, acc, hk, hks, rfl, rfl, ⟨uu, rfl, HU⟩, HG⟩ := hrel
    by_cases hlt : k < 10
    · obtain ⟨m, hm⟩ : ∃ m, 10 - k = m + 1 := ⟨9 - k, by omega⟩
      by_cases hend : k = s.size
      · have ht : (s.size : Int) ≤ (k : Int) := by omega
        have ht2 : decide (s.size ≤ k) = true := by simp; omega
        have hG : getN (byt s) = (0, 0, 8) := by
          rw [HG.out.1, hm, hend, byt_end]; rfl
        have HG := hid hG
        clear hend hG hm
        go_wp2_with fail
        go_ret3
        rw [HG.out]
        exact ⟨rfl, rfl⟩
      · have hks2 : k < s.size := by omega
        have hG := HG.out.1
        rw [byt_get s k hks2, hm] at hG
        have HA := hid HG.out.2
        have HM := hid hm
        have hc := s[k].toNat_lt
        have hpos : (0 : Int) ≤ (k : Int) := by omega
        have hk9 : (k : Int) ≤ 9 := by omega
        have HGG := hid hG
        clear HG hm hend hG
        by_cases herr : k = 9 ∧ 1 < s[k].toNat
        · have g1 : ((k : Int) == 9) = true := by rw [beq_iff_eq]; omega
          have g2 : (1 : Int) < (s[k].toNat : Int) := by omega
          have HE : Hid (getN (byt s) = (0, 0, 20)) := hid (by rw [HGG.out]; simp only [getF]; rw [if_pos herr])
          clear herr
          go_wp2_with fail
          go_ret3
          rw [HE.out]
          exact ⟨rfl, rfl⟩
        · have h9 : k = 9 → s[k].toNat ≤ 1 := fun h => by omega
          have hmul := get_room hc HA.out (by omega) h9
          rw [← HU.out hlt] at hmul
          obtain ⟨a2, ha2⟩ : ∃ a2 : Nat, a2 = acc + s[k].toNat % 128 * 128 ^ k := ⟨_, rfl⟩
          have HA2 := hid ha2
          have H9 := hid h9
          have HMUL := hid hmul
          clear ha2 h9 hmul
          have hp : ((k : Int) == 9) = false ∨ (((k : Int) == 9) = true ∧ ¬ ((1 : Int) < (s[k].toNat : Int)) ∧ Hid (k = 9)) := by
            by_cases h : k = 9
            · exact Or.inr ⟨by rw [beq_iff_eq]; omega, by have := H9.out h; omega, hid h⟩
            · exact Or.inl (by rw [beq_eq_false_iff_ne]; omega)
          have HERR := hid herr
          clear herr
          rcases hp with hp | ⟨hp, hp2, H9E⟩
          all_goals
            by_cases hge : 128 ≤ s[k].toNat
            · first
                | (exfalso; have h := H9E.out; have := H9.out h; omega)
                | skip
              all_goals
                have hge2 : (128 : Int) ≤ (s[k].toNat : Int) := by omega
                have hc2 : (s[k].toNat : Int) < 256 := by omega
                have HST := hid ((get_step HGG.out H9.out hge).resolve_right (by omega))
                have HN1 : Hid (IntKind.u64.wrap ((acc : Int) + IntKind.u64.wrap (((s[k].toNat : Int) - 128) * (uu : Int))) = (a2 : Int)) := hid (by
                  have e1 : (s[k].toNat : Int) - 128 = ((s[k].toNat % 128 : Nat) : Int) := by omega
                  have h1 := HMUL.out
                  rw [e1, ← Int.natCast_mul, IntKind.wrap_u64, IntKind.wrap_u64, HA2.out, ← HU.out hlt]
                  omega)
                have HN2 : Hid (∃ u2 : Nat, IntKind.u64.wrap ((uu : Int) * 128) = (u2 : Int) ∧ (k + 1 < 10 → u2 = 128 ^ (k + 1))) := hid (get_unit (HU.out hlt))
                have HGE := hid hge
                clear hge
                go_wp2_with fail
                obtain ⟨u2, hu1, hu2⟩ := HN2.out
                refine ⟨⟨k + 1, a2, by omega, by omega, by go_num, by rw [HN1.out], ⟨u2, by rw [hu1], hid hu2⟩, hid ⟨by rw [HST.out, show 10 - (k + 1) = m by have := HM.out; omega, HA2.out], ?_⟩⟩, by simp [intOf]; omega⟩
                have h1 := HA.out
                rw [HA2.out, Nat.pow_succ]
                have h2 : s[k].toNat % 128 * 128 ^ k ≤ 127 * 128 ^ k := Nat.mul_le_mul_right _ (by omega)
                omega
            · have hlt7 : (s[k].toNat : Int) < 128 := by omega
              have hcc0 : (0 : Int) ≤ (s[k].toNat : Int) := by omega
              have HLT : Hid (s[k].toNat < 128) := hid (by omega)
              by_cases hw : s[k].toNat = 0 ∧ 0 < k
              · have g3 : (0 : Int) < (k : Int) := by omega
                have g4 : ((s[k].toNat : Int) == 0) = true := by rw [beq_iff_eq]; omega
                have HE : Hid (getN (byt s) = (0, 0, 11)) := hid (by rw [HGG.out]; simp only [getF]; rw [if_neg HERR.out, if_pos HLT.out, if_pos hw])
                clear hw hge
                go_wp2_with fail
                go_ret3
                rw [HE.out]
                exact ⟨rfl, rfl⟩
              · have HE : Hid (getN (byt s) = (a2, k + 1, 0)) := hid (by
                  rw [HGG.out]; simp only [getF]
                  rw [if_neg HERR.out, if_pos HLT.out, if_neg hw, HA2.out, Nat.mod_eq_of_lt HLT.out])
                have HN1 : Hid (IntKind.u64.wrap ((acc : Int) + IntKind.u64.wrap ((s[k].toNat : Int) * (uu : Int))) = (a2 : Int)) := hid (by
                  have e1 : (s[k].toNat : Int) = ((s[k].toNat % 128 : Nat) : Int) := by omega
                  have h1 := HMUL.out
                  rw [e1, ← Int.natCast_mul, IntKind.wrap_u64, IntKind.wrap_u64, HA2.out, ← HU.out hlt]
                  omega)
                have hpq : (((s[k].toNat : Int) == 0) = false) ∨ (((s[k].toNat : Int) == 0) = true ∧ ¬ ((0 : Int) < (k : Int)) ∧ decide (0 < k) = false) := by
                  by_cases h : s[k].toNat = 0
                  · exact Or.inr ⟨by rw [beq_iff_eq]; omega, by omega, by simp; omega⟩
                  · exact Or.inl (by rw [beq_eq_false_iff_ne]; omega)
                clear hw hge
                rcases hpq with hq | ⟨hq, hq2, hq3⟩
                all_goals
                  go_wp2_with fail
                  go_ret3
                  rw [HE.out]
                  exact ⟨ret_three HN1.out (by simp) rfl, rfl⟩
    · obtain rfl : k = 10 := by omega
      have HE : Hid (getN (byt s) = (0, 0, 20)) := hid (by rw [HG.out.1]; simp only [Nat.sub_self, getF])
      go_wp2_with fail
      go_ret3
      rw [HE.out]
      exact ⟨rfl, rfl⟩
end Go.Proofs.YtokkafiphchejaaDoor
/-
  Walks: the writer's closures of a line.
-/
namespace Go.Proofs.YtokkafiphchejaaDoor
set_option linter.unusedVariables false
set_option linter.unusedSimpArgs false
open Go Go.RowKit
def WNumP (b : Nat) (r : Value) (S : ByteArray) (p : List Nat) (w : World) (e : Ending) (w' : World) : Prop := e = .returned r ∧ ∃ S', byt S' = byt S ++ p ∧ Blk w' b #[.string S'] 9 ∧ Turn [b] w w'
theorem byt_app (s t : ByteArray) : byt (s ++ t) = byt s ++ byt t := by simp [byt]
/-- What holds while a number is written. -/
structure WJ (w : World) (b n : Nat) (S : ByteArray) (l : Nat → Bool) (v : Nat → Value) (w' : World) : Prop where
  ord : l 5 = true → ∀ i, i < 5 → l i = true
  low : l 5 = false → Below w.heap.size w w'
  v0 : l 0 = true → v 0 = .string S
  v1 : l 1 = true → v 1 = .int .i64 (n : Int)
  v2 : l 2 = true → v 2 = .int .u64 (n : Int)
  v3 : l 3 = true → ∃ s, v 3 = .string s ∧ byt s = putN n
  v4 : l 4 = true → ∃ s, v 4 = .string s ∧ byt s = byt S ++ putN n
  fin : l 5 = true → ∃ S', byt S' = byt S ++ putN n ∧ Blk w' b #[.string S'] 9 ∧ Turn [b] w w'
theorem WJ.ext {w : World} {b n : Nat} {S : ByteArray} {l l' : Nat → Bool} {v : Nat → Value} {w' : World} (h : ∀ i, i < 6 → l i = l' i) (H : WJ w b n S l v w') : WJ w b n S l' v w' where
  ord g i hi := by rw [← h i (by omega)]; exact H.ord (by rw [h 5 (by omega)]; exact g) i hi
  low g := H.low (by rw [h 5 (by omega)]; exact g)
  v0 g := H.v0 (by rw [h 0 (by omega)]; exact g)
  v1 g := H.v1 (by rw [h 1 (by omega)]; exact g)
  v2 g := H.v2 (by rw [h 2 (by omega)]; exact g)
  v3 g := H.v3 (by rw [h 3 (by omega)]; exact g)
  v4 g := H.v4 (by rw [h 4 (by omega)]; exact g)
  fin g := H.fin (by rw [h 5 (by omega)]; exact g)
theorem WJ.put {w : World} {b n : Nat} {S : ByteArray} {l : Nat → Bool} {v : Nat → Value} {w' w'' : World} {x : Value} (i : Nat) (hi : i < 5) (hl : l i = false) (H : WJ w b n S l v w') (hb : Below w'.heap.size w' w'')
    (h0 : i = 0 → x = .string S) (h1 : i = 1 → x = .int .i64 (n : Int)) (h2 : i = 2 → x = .int .u64 (n : Int)) (h3 : i = 3 → ∃ s, x = .string s ∧ byt s = putN n) (h4 : i = 4 → ∃ s, x = .string s ∧ byt s = byt S ++ putN n) : WJ w b n S (doneL l i) (doneV v i x) w'' := by
  have h5 : l 5 = false := by
    cases h : l 5 with
    | false => rfl
    | true => rw [H.ord h i hi] at hl; cases hl
  have e5 : doneL l i 5 = false := by unfold doneL; rw [if_neg (by omega)]; exact h5
  refine ⟨(fun g => by rw [e5] at g; cases g), fun _ => ext_trans (H.low h5) hb, fun g => ?_, fun g => ?_, fun g => ?_, fun g => ?_, fun g => ?_, (fun g => by rw [e5] at g; cases g)⟩
  · unfold doneL at g; unfold doneV
    by_cases hh : 0 = i
    · rw [if_pos hh]; exact h0 hh.symm
    · rw [if_neg hh] at g ⊢; exact H.v0 g
  · unfold doneL at g; unfold doneV
    by_cases hh : 1 = i
    · rw [if_pos hh]; exact h1 hh.symm
    · rw [if_neg hh] at g ⊢; exact H.v1 g
  · unfold doneL at g; unfold doneV
    by_cases hh : 2 = i
    · rw [if_pos hh]; exact h2 hh.symm
    · rw [if_neg hh] at g ⊢; exact H.v2 g
  · unfold doneL at g; unfold doneV
    by_cases hh : 3 = i
    · rw [if_pos hh]; exact h3 hh.symm
    · rw [if_neg hh] at g ⊢; exact H.v3 g
  · unfold doneL at g; unfold doneV
    by_cases hh : 4 = i
    · rw [if_pos hh]; exact h4 hh.symm
    · rw [if_neg hh] at g ⊢; exact H.v4 g
set_option maxRecDepth 100000 in
set_option maxHeartbeats 4000000 in
theorem wnum_any (n : Nat) (m : Int) (S : ByteArray) (b : Nat) (w : World) (hB : Blk w b #[.string S] 9) (hn : n ≤ 9223372036854775807) (hS : S.size ≤ 1000) : Calls Tryd.prog 31 #[.int .i64 (n : Int), .int .i64 m, .pointer (some ⟨b, 0, none⟩)] w (WNumP b (.int .i64 (n : Int)) S (putN n) w) := by
  have HB := hid hB
  have HP := hid (fun W => vput_any n W (by omega))
  have HS := hid hS
  have q1 : IntKind.u64.wrap (n : Int) = (n : Int) := by simp only [IntKind.wrap, IntKind.bits, IntKind.signed]; simp; omega
  unfold WNumP
  unfold StrOf at HP
  clear hB hn hS
  go_enter Tryd.func31, Tryd.ntmps31
  go_wp2_with fail
  apply wp_region_inv' (WJ w b n S)
  focus (intro vals; simp [putAll, dstOf, Act.put]; rfl)
  case hm => kernel_rfl
  case hd => kernel_rfl
  case hb => kernel_rfl
  case hng => kernel_rfl
  case hsz => kernel_rfl
  case hext => exact fun l l' v w' h H => H.ext h
  case h0 => exact ⟨(fun h => by cases h), fun _ => ext_drew (ext_refl _), (fun h => by cases h), (fun h => by cases h), (fun h => by cases h), (fun h => by cases h), (fun h => by cases h), (fun h => by cases h)⟩
  case hstep =>
    refine ⟨?_, ?_, ?_, ?_, ?_, ?_, trivial⟩
    all_goals (
      intro l vs w' hi hd hJ
      refine ⟨(fun g b h => by cases h), fun _ ρ h1 h2 h3 h4 h5 => ?_⟩
      have HJ := hid hJ
      clear hJ)
    · have f2 := h5 2 (by kernel_rfl)
      have h55 : l 5 = false := by
        cases h : l 5 with
        | false => rfl
        | true => rw [HJ.out.ord h 0 (by omega)] at hi; cases hi
      have c0 := (HB.out.below (HJ.out.low h55)).cell 0 rfl
      clear h4 h5
      unfold OpY
      go_simp
      exact HJ.out.put 0 (by omega) hi (ext_refl _) (fun _ => rfl) (fun h => by cases h) (fun h => by cases h) (fun h => by cases h) (fun h => by cases h)
    · have f0 := h5 0 (by kernel_rfl)
      clear h4 h5
      unfold OpY
      go_simp
      exact HJ.out.put 1 (by omega) hi (ext_refl _) (fun h => by cases h) (fun _ => rfl) (fun h => by cases h) (fun h => by cases h) (fun h => by cases h)
    · have f1 := (h4 1 7 (by kernel_rfl) (by kernel_rfl)).trans (HJ.out.v1 (hd 1 (by kernel_rfl)))
      clear h4 h5
      unfold OpY
      go_simp
      exact HJ.out.put 2 (by omega) hi (ext_refl _) (fun h => by cases h) (fun h => by cases h) (fun _ => rfl) (fun h => by cases h) (fun h => by cases h)
    · have f1 := (h4 2 8 (by kernel_rfl) (by kernel_rfl)).trans (HJ.out.v2 (hd 2 (by kernel_rfl)))
      clear h4 h5
      unfold OpY
      go_simp
      unfold OpR
      refine (HP.out _).mono ?_
      rintro e' w1 ⟨s, rfl, hs, hb⟩
      exact ⟨_, rfl, HJ.out.put 3 (by omega) hi hb (fun h => by cases h) (fun h => by cases h) (fun h => by cases h) (fun _ => ⟨s, rfl, hs⟩) (fun h => by cases h)⟩
    · have f0 := (h4 0 6 (by kernel_rfl) (by kernel_rfl)).trans (HJ.out.v0 (hd 0 (by kernel_rfl)))
      obtain ⟨s, hv, hs⟩ := HJ.out.v3 (hd 3 (by kernel_rfl))
      have f3 := (h4 3 9 (by kernel_rfl) (by kernel_rfl)).trans hv
      have hsz : s.size ≤ 10 := by rw [← byt_len, hs]; exact putN_ten n
      have l1 : ¬ 9223372036854775807 < S.size + s.size := by have := HS.out; omega
      have HSS := hid hs
      clear h4 h5 hsz hv hs
      unfold OpY
      go_simp
      exact HJ.out.put 4 (by omega) hi (ext_refl _) (fun h => by cases h) (fun h => by cases h) (fun h => by cases h) (fun h => by cases h) (fun _ => ⟨_, rfl, by rw [byt_app, HSS.out]⟩)
    · have f2 := h5 2 (by kernel_rfl)
      obtain ⟨s, hv, hs⟩ := HJ.out.v4 (hd 4 (by kernel_rfl))
      have f4 := (h4 4 10 (by kernel_rfl) (by kernel_rfl)).trans hv
      have hbk := HB.out.below (HJ.out.low hi)
      have HBK := hid hbk
      have c0 := hbk.cell 0 rfl
      have z0 := hbk.free 0
      have HSS := hid hs
      have hdd : ∀ i, i < 5 → l i = true := by
        intro i h
        have : i = 0 ∨ i = 1 ∨ i = 2 ∨ i = 3 ∨ i = 4 := by omega
        rcases this with rfl | rfl | rfl | rfl | rfl
        · exact hd 0 (by kernel_rfl)
        · exact hd 1 (by kernel_rfl)
        · exact hd 2 (by kernel_rfl)
        · exact hd 3 (by kernel_rfl)
        · exact hd 4 (by kernel_rfl)
      have HDD := hid hdd
      clear hdd
      clear h4 h5 hv hs hbk
      unfold OpY
      go_simp
      have hx : WJ w b n S (doneL l 5) (doneV vs 5 undef) (w'.setCell ⟨b, 0, none⟩ (.string s)) := by
        have H := HJ.out
        have e : ∀ i, i < 5 → doneL l 5 i = l i := fun i h => by unfold doneL; rw [if_neg (by omega)]
        have g : ∀ i, i < 5 → doneV vs 5 undef i = vs i := fun i h => by unfold doneV; rw [if_neg (by omega)]
        refine ⟨fun _ i h => by rw [e i h]; exact HDD.out i h, fun h => ?_, fun h => ?_, fun h => ?_, fun h => ?_, fun h => ?_, fun h => ?_, fun _ => ⟨s, HSS.out, ?_, ?_⟩⟩
        · unfold doneL at h; rw [if_pos rfl] at h; cases h
        · rw [g 0 (by omega)]; exact H.v0 (by rw [← e 0 (by omega)]; exact h)
        · rw [g 1 (by omega)]; exact H.v1 (by rw [← e 1 (by omega)]; exact h)
        · rw [g 2 (by omega)]; exact H.v2 (by rw [← e 2 (by omega)]; exact h)
        · rw [g 3 (by omega)]; exact H.v3 (by rw [← e 3 (by omega)]; exact h)
        · rw [g 4 (by omega)]; exact H.v4 (by rw [← e 4 (by omega)]; exact h)
        · exact HBK.out.set 0 (.string s)
        · exact (Turn.of_below (H.low hi)).setCell (Or.inl (by simp)) _
      exact hx
  case hdone =>
    intro vs w' hJ
    have HF := hid (hJ.fin rfl)
    clear hJ
    go_wp2_with fail
    go_ret
    exact ⟨rfl, HF.out⟩
end Go.Proofs.YtokkafiphchejaaDoor
/-
  Walks: the writer's closure for whole numbers.
-/
namespace Go.Proofs.YtokkafiphchejaaDoor
set_option linter.unusedVariables false
set_option linter.unusedSimpArgs false
open Go Go.RowKit
/-- What holds while a number is written. -/
structure WI (w : World) (b : Nat) (y : Int) (n : Nat) (S : ByteArray) (l : Nat → Bool) (v : Nat → Value) (w' : World) : Prop where
  ord : l 5 = true → ∀ i, i < 5 → l i = true
  low : l 5 = false → Below w.heap.size w w'
  v0 : l 0 = true → v 0 = .string S
  v1 : l 1 = true → v 1 = .int .i64 y
  v2 : l 2 = true → v 2 = .int .u64 (n : Int)
  v3 : l 3 = true → ∃ s, v 3 = .string s ∧ byt s = putN n
  v4 : l 4 = true → ∃ s, v 4 = .string s ∧ byt s = byt S ++ putN n
  fin : l 5 = true → ∃ S', byt S' = byt S ++ putN n ∧ Blk w' b #[.string S'] 9 ∧ Turn [b] w w'
theorem WI.ext {w : World} {b n : Nat} {y : Int} {S : ByteArray} {l l' : Nat → Bool} {v : Nat → Value} {w' : World} (h : ∀ i, i < 6 → l i = l' i) (H : WI w b y n S l v w') : WI w b y n S l' v w' where
  ord g i hi := by rw [← h i (by omega)]; exact H.ord (by rw [h 5 (by omega)]; exact g) i hi
  low g := H.low (by rw [h 5 (by omega)]; exact g)
  v0 g := H.v0 (by rw [h 0 (by omega)]; exact g)
  v1 g := H.v1 (by rw [h 1 (by omega)]; exact g)
  v2 g := H.v2 (by rw [h 2 (by omega)]; exact g)
  v3 g := H.v3 (by rw [h 3 (by omega)]; exact g)
  v4 g := H.v4 (by rw [h 4 (by omega)]; exact g)
  fin g := H.fin (by rw [h 5 (by omega)]; exact g)
theorem WI.put {w : World} {b n : Nat} {y : Int} {S : ByteArray} {l : Nat → Bool} {v : Nat → Value} {w' w'' : World} {x : Value} (i : Nat) (hi : i < 5) (hl : l i = false) (H : WI w b y n S l v w') (hb : Below w'.heap.size w' w'')
    (h0 : i = 0 → x = .string S) (h1 : i = 1 → x = .int .i64 y) (h2 : i = 2 → x = .int .u64 (n : Int)) (h3 : i = 3 → ∃ s, x = .string s ∧ byt s = putN n) (h4 : i = 4 → ∃ s, x = .string s ∧ byt s = byt S ++ putN n) : WI w b y n S (doneL l i) (doneV v i x) w'' := by
  have h5 : l 5 = false := by
    cases h : l 5 with
    | false => rfl
    | true => rw [H.ord h i hi] at hl; cases hl
  have e5 : doneL l i 5 = false := by unfold doneL; rw [if_neg (by omega)]; exact h5
  refine ⟨(fun g => by rw [e5] at g; cases g), fun _ => ext_trans (H.low h5) hb, fun g => ?_, fun g => ?_, fun g => ?_, fun g => ?_, fun g => ?_, (fun g => by rw [e5] at g; cases g)⟩
  · unfold doneL at g; unfold doneV
    by_cases hh : 0 = i
    · rw [if_pos hh]; exact h0 hh.symm
    · rw [if_neg hh] at g ⊢; exact H.v0 g
  · unfold doneL at g; unfold doneV
    by_cases hh : 1 = i
    · rw [if_pos hh]; exact h1 hh.symm
    · rw [if_neg hh] at g ⊢; exact H.v1 g
  · unfold doneL at g; unfold doneV
    by_cases hh : 2 = i
    · rw [if_pos hh]; exact h2 hh.symm
    · rw [if_neg hh] at g ⊢; exact H.v2 g
  · unfold doneL at g; unfold doneV
    by_cases hh : 3 = i
    · rw [if_pos hh]; exact h3 hh.symm
    · rw [if_neg hh] at g ⊢; exact H.v3 g
  · unfold doneL at g; unfold doneV
    by_cases hh : 4 = i
    · rw [if_pos hh]; exact h4 hh.symm
    · rw [if_neg hh] at g ⊢; exact H.v4 g
set_option maxRecDepth 100000 in
set_option maxHeartbeats 4000000 in
theorem wint_any (y : Int) (S : ByteArray) (b : Nat) (w : World) (hB : Blk w b #[.string S] 9) (hy : -9223372036854775808 ≤ y ∧ y ≤ 9223372036854775807) (hS : S.size ≤ 1000) : Calls Tryd.prog 33 #[.int .i64 y, .pointer (some ⟨b, 0, none⟩)] w (WNumP b (.int .i64 y) S (putN (zigZ y)) w) := by
  have hn := zig_lt y hy
  have HZ := hid (fun W => zig_any y W hy)
  generalize zigZ y = n at hn HZ ⊢
  have HB := hid hB
  have HP := hid (fun W => vput_any n W (by omega))
  have HS := hid hS
  unfold WNumP
  unfold StrOf at HP
  clear hB hn hS hy
  go_enter Tryd.func33, Tryd.ntmps33
  go_wp2_with fail
  apply wp_region_inv' (WI w b y n S)
  focus (intro vals; simp [putAll, dstOf, Act.put]; rfl)
  case hm => kernel_rfl
  case hd => kernel_rfl
  case hb => kernel_rfl
  case hng => kernel_rfl
  case hsz => kernel_rfl
  case hext => exact fun l l' v w' h H => H.ext h
  case h0 => exact ⟨(fun h => by cases h), fun _ => ext_drew (ext_refl _), (fun h => by cases h), (fun h => by cases h), (fun h => by cases h), (fun h => by cases h), (fun h => by cases h), (fun h => by cases h)⟩
  case hstep =>
    refine ⟨?_, ?_, ?_, ?_, ?_, ?_, trivial⟩
    all_goals (
      intro l vs w' hi hd hJ
      refine ⟨(fun g b h => by cases h), fun _ ρ h1 h2 h3 h4 h5 => ?_⟩
      have HJ := hid hJ
      clear hJ)
    · have f2 := h5 1 (by kernel_rfl)
      have h55 : l 5 = false := by
        cases h : l 5 with
        | false => rfl
        | true => rw [HJ.out.ord h 0 (by omega)] at hi; cases hi
      have c0 := (HB.out.below (HJ.out.low h55)).cell 0 rfl
      clear h4 h5
      unfold OpY
      go_simp
      exact HJ.out.put 0 (by omega) hi (ext_refl _) (fun _ => rfl) (fun h => by cases h) (fun h => by cases h) (fun h => by cases h) (fun h => by cases h)
    · have f0 := h5 0 (by kernel_rfl)
      clear h4 h5
      unfold OpY
      go_simp
      exact HJ.out.put 1 (by omega) hi (ext_refl _) (fun h => by cases h) (fun _ => rfl) (fun h => by cases h) (fun h => by cases h) (fun h => by cases h)
    · have f1 := (h4 1 5 (by kernel_rfl) (by kernel_rfl)).trans (HJ.out.v1 (hd 1 (by kernel_rfl)))
      clear h4 h5
      unfold OpY
      go_simp
      unfold OpR
      refine (HZ.out _).mono ?_
      rintro e' w1 ⟨rfl, rfl⟩
      exact ⟨_, rfl, HJ.out.put 2 (by omega) hi (ext_refl _) (fun h => by cases h) (fun h => by cases h) (fun _ => rfl) (fun h => by cases h) (fun h => by cases h)⟩
    · have f1 := (h4 2 6 (by kernel_rfl) (by kernel_rfl)).trans (HJ.out.v2 (hd 2 (by kernel_rfl)))
      clear h4 h5
      unfold OpY
      go_simp
      unfold OpR
      refine (HP.out _).mono ?_
      rintro e' w1 ⟨s, rfl, hs, hb⟩
      exact ⟨_, rfl, HJ.out.put 3 (by omega) hi hb (fun h => by cases h) (fun h => by cases h) (fun h => by cases h) (fun _ => ⟨s, rfl, hs⟩) (fun h => by cases h)⟩
    · have f0 := (h4 0 4 (by kernel_rfl) (by kernel_rfl)).trans (HJ.out.v0 (hd 0 (by kernel_rfl)))
      obtain ⟨s, hv, hs⟩ := HJ.out.v3 (hd 3 (by kernel_rfl))
      have f3 := (h4 3 7 (by kernel_rfl) (by kernel_rfl)).trans hv
      have hsz : s.size ≤ 10 := by rw [← byt_len, hs]; exact putN_ten n
      have l1 : ¬ 9223372036854775807 < S.size + s.size := by have := HS.out; omega
      have HSS := hid hs
      clear h4 h5 hsz hv hs
      unfold OpY
      go_simp
      exact HJ.out.put 4 (by omega) hi (ext_refl _) (fun h => by cases h) (fun h => by cases h) (fun h => by cases h) (fun h => by cases h) (fun _ => ⟨_, rfl, by rw [byt_app, HSS.out]⟩)
    · have f2 := h5 1 (by kernel_rfl)
      obtain ⟨s, hv, hs⟩ := HJ.out.v4 (hd 4 (by kernel_rfl))
      have f4 := (h4 4 8 (by kernel_rfl) (by kernel_rfl)).trans hv
      have hbk := HB.out.below (HJ.out.low hi)
      have HBK := hid hbk
      have c0 := hbk.cell 0 rfl
      have z0 := hbk.free 0
      have HSS := hid hs
      have hdd : ∀ i, i < 5 → l i = true := by
        intro i h
        have : i = 0 ∨ i = 1 ∨ i = 2 ∨ i = 3 ∨ i = 4 := by omega
        rcases this with rfl | rfl | rfl | rfl | rfl
        · exact hd 0 (by kernel_rfl)
        · exact hd 1 (by kernel_rfl)
        · exact hd 2 (by kernel_rfl)
        · exact hd 3 (by kernel_rfl)
        · exact hd 4 (by kernel_rfl)
      have HDD := hid hdd
      clear hdd
      clear h4 h5 hv hs hbk
      unfold OpY
      go_simp
      have hx : WI w b y n S (doneL l 5) (doneV vs 5 undef) (w'.setCell ⟨b, 0, none⟩ (.string s)) := by
        have H := HJ.out
        have e : ∀ i, i < 5 → doneL l 5 i = l i := fun i h => by unfold doneL; rw [if_neg (by omega)]
        have g : ∀ i, i < 5 → doneV vs 5 undef i = vs i := fun i h => by unfold doneV; rw [if_neg (by omega)]
        refine ⟨fun _ i h => by rw [e i h]; exact HDD.out i h, fun h => ?_, fun h => ?_, fun h => ?_, fun h => ?_, fun h => ?_, fun h => ?_, fun _ => ⟨s, HSS.out, ?_, ?_⟩⟩
        · unfold doneL at h; rw [if_pos rfl] at h; cases h
        · rw [g 0 (by omega)]; exact H.v0 (by rw [← e 0 (by omega)]; exact h)
        · rw [g 1 (by omega)]; exact H.v1 (by rw [← e 1 (by omega)]; exact h)
        · rw [g 2 (by omega)]; exact H.v2 (by rw [← e 2 (by omega)]; exact h)
        · rw [g 3 (by omega)]; exact H.v3 (by rw [← e 3 (by omega)]; exact h)
        · rw [g 4 (by omega)]; exact H.v4 (by rw [← e 4 (by omega)]; exact h)
        · exact HBK.out.set 0 (.string s)
        · exact (Turn.of_below (H.low hi)).setCell (Or.inl (by simp)) _
      exact hx
  case hdone =>
    intro vs w' hJ
    have HF := hid (hJ.fin rfl)
    clear hJ
    go_wp2_with fail
    go_ret
    exact ⟨rfl, HF.out⟩
end Go.Proofs.YtokkafiphchejaaDoor
/-
  Walks: a writer's Len and Text.
-/
namespace Go.Proofs.YtokkafiphchejaaDoor
set_option linter.unusedVariables false
set_option linter.unusedSimpArgs false
open Go Go.RowKit
/-- A writer in memory: its bound, its bytes. -/
def WrtAt (w : World) (b : Nat) (most : Int) (bs : List Nat) : Prop := ∃ v, Blk w b #[.int .i64 most, v] 77 ∧ ((v = .slice none 0 0 ∧ bs = []) ∨ ∃ g cap cur, v = .slice (some ⟨g, 0, none⟩) bs.length cap ∧ g ≠ b ∧ Blk w g cur 5 ∧ ∀ j (h : j < bs.length), cur[j]? = some (.int .u8 (bs[j] : Int)))
set_option maxRecDepth 100000 in
set_option maxHeartbeats 4000000 in
theorem wLen_any (b : Nat) (most : Int) (bs : List Nat) (w : World) (h : WrtAt w b most bs) (hl : bs.length ≤ 16777216) : Calls Tryd.prog 13 #[.pointer (some ⟨b, 0, none⟩)] w fun e' w' => e' = .returned (.int .i64 (bs.length : Int)) ∧ w = w' := by
  obtain ⟨v, hb, hv⟩ := h
  have c1 := hb.cell 1 rfl
  clear hb
  rcases hv with ⟨rfl, rfl⟩ | ⟨g, cap, cur, rfl, -, -, -⟩
  · go_enter Tryd.func13, Tryd.ntmps13
    go_wp2_with fail
    go_ret
    exact ⟨rfl, rfl⟩
  · have j1 : wrap64 (bs.length : Int) = (bs.length : Int) := by unfold wrap64; omega
    clear hl
    go_enter Tryd.func13, Tryd.ntmps13
    go_wp2_with fail
    go_ret
    exact ⟨rfl, rfl⟩
set_option maxRecDepth 100000 in
set_option maxHeartbeats 4000000 in
theorem wText_any (b : Nat) (most : Int) (bs : List Nat) (w : World) (h : WrtAt w b most bs) (hb8 : ∀ c ∈ bs, c < 256) : Calls Tryd.prog 19 #[.pointer (some ⟨b, 0, none⟩)] w fun e' w' => e' = .returned (.string (bstr bs)) ∧ w = w' := by
  obtain ⟨v, hb, hv⟩ := h
  have c1 := hb.cell 1 rfl
  clear hb
  rcases hv with ⟨rfl, rfl⟩ | ⟨g, cap, cur, rfl, -, hg, hc⟩
  · have k1 : (convert 75 9 (.slice none 0 0)).run Tryd.prog w = .ok (.string ⟨#[]⟩) w := run_convert_bytes_string w 75 9 5 none 0 0 Tryd.underlying75 Tryd.underlying5 Tryd.underlying9
    go_enter Tryd.func19, Tryd.ntmps19
    go_wp2_with fail
    go_ret
    exact ⟨rfl, rfl⟩
  · have k1 := run_conv_bytes w g 0 cap bs hb8 (fun j h => by rw [Nat.zero_add]; exact hg.cell j (hc j h))
    clear hg hc hb8
    go_enter Tryd.func19, Tryd.ntmps19
    go_wp2_with fail
    go_ret
    exact ⟨rfl, rfl⟩
end Go.Proofs.YtokkafiphchejaaDoor
/-
  Walk: the reader's closure for a number.
-/
namespace Go.Proofs.YtokkafiphchejaaDoor
set_option linter.unusedVariables false
set_option linter.unusedSimpArgs false
open Go Go.RowKit
def num1E (s : ByteArray) (most : Nat) : Nat := if (getN (byt s)).2.2 = 0 ∧ most < (getN (byt s)).1 then 20 else (getN (byt s)).2.2
set_option maxRecDepth 100000 in
set_option maxHeartbeats 4000000 in
theorem num1_any (s : ByteArray) (most p : Nat) (w : World) (hp : w.cell? ⟨p, 0, none⟩ = some (.int .u64 (most : Int))) (hs : s.size ≤ 9223372036854775807) : Calls Tryd.prog 69 #[.string s, .pointer (some ⟨p, 0, none⟩)] w fun e' w' =>
    e' = .returned (.tuple #[.int .u64 ((getN (byt s)).1 : Int), .int .i64 ((getN (byt s)).2.1 : Int), .int .i64 (num1E s most : Int)]) ∧ w = w' := by
  have HG := hid (get_any s w hs)
  unfold num1E
  generalize getN (byt s) = r at HG ⊢
  obtain ⟨n, size, e⟩ := r
  dsimp only at HG ⊢
  clear hs
  by_cases he : e = 0
  · subst he
    by_cases hn : most < n
    · rw [if_pos ⟨rfl, hn⟩]
      have j1 : decide ((most : Int) < (n : Int)) = true := decide_eq_true (by omega)
      have j2 : decide (most < n) = true := decide_eq_true hn
      clear hn
      go_enter Tryd.func69, Tryd.ntmps69
      go_wp2_with fail
      refine HG.out.mono ?_
      rintro e' w' ⟨rfl, rfl⟩
      go_wp2_with fail
      exact bodyPost_ret (v := .tuple #[.int .u64 (n : Int), .int .i64 (size : Int), .int .i64 20]) (by simp [results, Tryd.results69, go_sem]) rfl ⟨rfl, rfl⟩
    · rw [if_neg (fun h => hn h.2)]
      have j1 : decide ((most : Int) < (n : Int)) = false := decide_eq_false (by omega)
      have j2 : decide (most < n) = false := decide_eq_false hn
      clear hn
      go_enter Tryd.func69, Tryd.ntmps69
      go_wp2_with fail
      refine HG.out.mono ?_
      rintro e' w' ⟨rfl, rfl⟩
      go_wp2_with fail
      exact bodyPost_ret (v := .tuple #[.int .u64 (n : Int), .int .i64 (size : Int), .int .i64 0]) (by simp [results, Tryd.results69, go_sem]) rfl ⟨rfl, rfl⟩
  · rw [if_neg (fun h => he h.1)]
    have j1 : ((e : Int) == 0) = false := beq_eq_false_iff_ne.2 (by omega)
    have j2 : (e == 0) = false := beq_eq_false_iff_ne.2 he
    clear he
    go_enter Tryd.func69, Tryd.ntmps69
    go_wp2_with fail
    refine HG.out.mono ?_
    rintro e' w' ⟨rfl, rfl⟩
    go_wp2_with fail
    exact bodyPost_ret (v := .tuple #[.int .u64 (n : Int), .int .i64 (size : Int), .int .i64 (e : Int)]) (by simp [results, Tryd.results69, go_sem]) rfl ⟨rfl, rfl⟩
end Go.Proofs.YtokkafiphchejaaDoor
/-
  Walk: read of a number.
-/
namespace Go.Proofs.YtokkafiphchejaaDoor
set_option linter.unusedVariables false
set_option linter.unusedSimpArgs false
open Go Go.RowKit
set_option maxRecDepth 100000 in
set_option maxHeartbeats 4000000 in
theorem read64_err (b : Nat) (s : ByteArray) (at_ e : Nat) (fv : Value) (w : World) (h : RdrAt w b s at_ e) (he : e ≠ 0) : Calls Tryd.prog 68 #[.pointer (some ⟨b, 0, none⟩), fv] w fun e' w' => e' = .returned (.tuple #[.int .u64 0, .int .i64 (e : Int)]) ∧ Below w.heap.size w w' := by
  have c2 : w.cell? ⟨b, 2, none⟩ = some (.int .i64 (e : Int)) := Blk.cell h 2 rfl
  have j1 : ((e : Int) == 0) = false := beq_eq_false_iff_ne.2 (by omega)
  have j2 : (e == 0) = false := beq_eq_false_iff_ne.2 he
  have j3 : ((e : Int) != 0) = true := bne_iff_ne.2 (by omega)
  have j4 : (e != 0) = true := bne_iff_ne.2 he
  have HH := hid h
  clear h he
  go_enter Tryd.func68, Tryd.ntmps68
  go_wp2_with fail
  go_quiet (fail)
  go_wp2_with fail
  go_ret2
  exact ⟨rfl, ext_drewN (ext_refl _) _⟩
end Go.Proofs.YtokkafiphchejaaDoor
