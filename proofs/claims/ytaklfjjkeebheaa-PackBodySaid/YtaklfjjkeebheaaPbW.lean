/-
  Joined texts: DeW1 DeW2 DeW5 DeW6 DeW7 DeR1 DeR2 DeR3 DeR6.
-/
import Derived.Test.YtaklfjjkeebheaaProg
import Derived.Test.YtaklfjjkeebheaaTurn
import Derived.Test.YtaklfjjkeebheaaPbV
import Derived.Test.YtaklfjjkeebheaaPbR
import Derived.Test.YtaklfjjkeebheaaPbB
import Derived.Deep.QuietTactic
/-
  Walks: a reader's small functions, a new writer and reader, Zig.
-/
namespace Go.Proofs.Ytaklfjjkeebheaa
set_option linter.unusedVariables false
set_option linter.unusedSimpArgs false
open Go Go.RowKit
/-- A reader in memory. -/
def RdrAt (w : World) (b : Nat) (s : ByteArray) (at_ e : Nat) : Prop := Blk w b #[.string s, .int .i64 (at_ : Int), .int .i64 (e : Int)] 71
set_option maxRecDepth 100000 in
set_option maxHeartbeats 4000000 in
theorem newReader_any (s : ByteArray) (w : World) (hs : s.size ≤ 16777216) : Calls Try.prog 12 #[.string s] w fun e w' => e = .returned (.tuple #[.pointer (some ⟨w.heap.size, 0, none⟩), .int .i64 0]) ∧ RdrAt w' w.heap.size s 0 0 ∧ Below w.heap.size w w' := by
  have j1 : decide ((16777216 : Int) < (s.size : Int)) = false := decide_eq_false (by omega)
  have j2 : decide (16777216 < s.size) = false := decide_eq_false (by omega)
  have j3 : wrap64 (s.size : Int) = (s.size : Int) := by unfold wrap64; omega
  have HB : Hid (Below w.heap.size w (w.alloc (.cells #[.string s, .int .i64 0, .int .i64 0] 71))) := hid (ext_alloc (ext_refl _) _)
  have HR : Hid (RdrAt (w.alloc (.cells #[.string s, .int .i64 0, .int .i64 0] 71)) w.heap.size s 0 0) := hid (Blk.new _ _ _)
  clear hs
  go_enter Try.func12, Try.ntmps12
  go_wp2_with fail
  go_ret2
  exact ⟨rfl, HR.out, HB.out⟩
set_option maxRecDepth 100000 in
set_option maxHeartbeats 4000000 in
theorem rAt_any (b : Nat) (s : ByteArray) (at_ e : Nat) (w : World) (h : RdrAt w b s at_ e) : Calls Try.prog 47 #[.pointer (some ⟨b, 0, none⟩)] w fun e' w' => e' = .returned (.int .i64 (at_ : Int)) ∧ w = w' := by
  have c1 := Blk.cell h 1 rfl
  clear h
  go_enter Try.func47, Try.ntmps47
  go_wp2_with fail
  go_ret
  exact ⟨rfl, rfl⟩
set_option maxRecDepth 100000 in
set_option maxHeartbeats 4000000 in
theorem newWriter_any (m : Int) (w : World) (hm : 0 ≤ m ∧ m ≤ 16777216) : Calls Try.prog 17 #[.int .i64 m] w fun e w' => e = .returned (.tuple #[.pointer (some ⟨w.heap.size, 0, none⟩), .int .i64 0]) ∧ Blk w' w.heap.size #[.int .i64 m, .slice none 0 0] 83 ∧ Below w.heap.size w w' := by
  have j1 : decide (m < 0) = false := decide_eq_false (by omega)
  have j2 : decide (16777216 < m) = false := decide_eq_false (by omega)
  have HB : Hid (Below w.heap.size w (w.alloc (.cells #[.int .i64 m, .slice none 0 0] 83))) := hid (ext_alloc (ext_refl _) _)
  have HR : Hid (Blk (w.alloc (.cells #[.int .i64 m, .slice none 0 0] 83)) w.heap.size #[.int .i64 m, .slice none 0 0] 83) := hid (Blk.new _ _ _)
  clear hm
  go_enter Try.func17, Try.ntmps17
  go_wp2_with fail
  go_ret2
  exact ⟨rfl, HR.out, HB.out⟩
set_option maxRecDepth 100000 in
set_option maxHeartbeats 4000000 in
theorem newWriter_bad (m : Int) (w : World) (hm : m < 0 ∨ 16777216 < m) : Calls Try.prog 17 #[.int .i64 m] w fun e w' => e = .returned (.tuple #[.pointer none, .int .i64 1]) ∧ w = w' := by
  by_cases h0 : m < 0
  · have j1 : decide (m < 0) = true := decide_eq_true h0
    clear hm h0
    go_enter Try.func17, Try.ntmps17
    go_wp2_with fail
    go_ret2
    exact ⟨rfl, rfl⟩
  · have j1 : decide (m < 0) = false := decide_eq_false h0
    have j2 : decide (16777216 < m) = true := decide_eq_true (by omega)
    clear hm h0
    go_enter Try.func17, Try.ntmps17
    go_wp2_with fail
    go_ret2
    exact ⟨rfl, rfl⟩
end Go.Proofs.Ytaklfjjkeebheaa
/-
  Walks: Wrong, Zig.
-/
namespace Go.Proofs.Ytaklfjjkeebheaa
set_option linter.unusedVariables false
set_option linter.unusedSimpArgs false
open Go Go.RowKit
set_option maxRecDepth 100000 in
set_option maxHeartbeats 4000000 in
theorem rWrong_any (b : Nat) (s : ByteArray) (at_ e : Nat) (w : World) (h : RdrAt w b s at_ e) : Calls Try.prog 15 #[.pointer (some ⟨b, 0, none⟩)] w fun e' w' => e' = .returned (.tuple #[.int .i64 (if e = 0 then 0 else (at_ : Int)), .int .i64 (e : Int)]) ∧ Below w.heap.size w w' := by
  have HH := hid h
  have c1 := Blk.cell h 1 rfl
  have c2 := Blk.cell h 2 rfl
  clear h
  by_cases h0 : e = 0
  · subst h0
    go_enter Try.func15, Try.ntmps15
    go_wp2_with fail
    go_ret2
    exact ⟨rfl, ext_refl _⟩
  · have j1 : ((e : Int) == 0) = false := beq_eq_false_iff_ne.2 (by omega)
    have j2 : (e == 0) = false := beq_eq_false_iff_ne.2 h0
    rw [if_neg h0]
    clear h0
    go_enter Try.func15, Try.ntmps15
    go_wp2_with fail
    clear c1 c2 j1 j2
    apply wp_region_valsJ [.pointer (some ⟨b, 0, none⟩), .pointer (some ⟨b, 0, none⟩), .pointer (some ⟨b, 1, none⟩), .int .i64 (at_ : Int), .pointer (some ⟨b, 0, none⟩), .pointer (some ⟨b, 0, none⟩), .pointer (some ⟨b, 2, none⟩), .int .i64 (e : Int), .int .i64 (at_ : Int), .int .i64 (e : Int)] (fun _ w' => Below w.heap.size w w')
    focus (simp [putAll, dstOf, Act.put, List.getD]; rfl)
    case hm => kernel_rfl
    case hd => kernel_rfl
    case hb => kernel_rfl
    case hdep => kernel_rfl
    case hsel => kernel_rfl
    case hng => kernel_rfl
    case hgv => kernel_rfl
    case hext => exact fun _ _ _ _ h => h
    case hsz => kernel_rfl
    case h0 => exact ext_drew (ext_refl _)
    case hstep =>
      repeat' (first | exact trivial | (refine And.intro ?_ ?_))
      all_goals (
        intro l w' hl hdp hG
        rw [if_pos (by kernel_rfl)]
        intro K Qp hK
        have d1 := Blk.cell (Blk.below hG HH.out) 1 rfl
        have d2 := Blk.cell (Blk.below hG HH.out) 2 rfl
        have HGG := hid hG
        clear hG
        go_simp
        exact hK _ HGG.out)
    case hdone =>
      intro w' hG
      have HG := hid hG
      clear hG
      go_wp2_with fail
      go_ret2
      exact ⟨rfl, HG.out⟩
theorem xor_ones (n a : Nat) (h : a < 2 ^ n) : a ^^^ (2 ^ n - 1) = 2 ^ n - 1 - a := by
  apply Nat.eq_of_testBit_eq
  intro i
  rw [Nat.testBit_xor, Nat.testBit_two_pow_sub_one, show 2 ^ n - 1 - a = 2 ^ n - (a + 1) by omega, Nat.testBit_two_pow_sub_succ h]
  by_cases hi : i < n
  · simp [hi]
  · have : a.testBit i = false := Nat.testBit_lt_two_pow (Nat.lt_of_lt_of_le h (Nat.pow_le_pow_right (by omega) (by omega)))
    simp [hi, this]
theorem zig_bits (x : Int) (hx : -9223372036854775808 ≤ x ∧ x ≤ 9223372036854775807) : bits .xor .u64 (IntKind.u64.wrap (IntKind.u64.wrap x * 2)) (IntKind.u64.wrap (x / 9223372036854775808)) = (zigZ x : Int) := by
  have hw : ∀ y : Int, IntKind.u64.wrap y = y % 18446744073709551616 := fun y => by simp [IntKind.wrap, IntKind.signed, IntKind.bits]
  rw [hw, hw, hw]
  unfold zigZ
  by_cases h0 : 0 ≤ x
  · rw [if_pos h0, show x / 9223372036854775808 % 18446744073709551616 = 0 by omega, show x % 18446744073709551616 * 2 % 18446744073709551616 = 2 * x by omega]
    obtain ⟨u, hu⟩ := Int.eq_ofNat_of_zero_le (show 0 ≤ 2 * x by omega)
    rw [hu]
    show IntKind.u64.wrap (((BitVec.ofInt 64 (u : Int)) ^^^ (BitVec.ofInt 64 ((0 : Nat) : Int))).toNat : Int) = _
    rw [BitVec.ofInt_natCast, BitVec.ofInt_natCast, BitVec.toNat_xor, BitVec.toNat_ofNat, BitVec.toNat_ofNat, Nat.mod_eq_of_lt (by omega : u < 2 ^ 64), Nat.zero_mod, Nat.xor_zero, hw]
    omega
  · rw [if_neg h0, show x / 9223372036854775808 % 18446744073709551616 = ((2 ^ 64 - 1 : Nat) : Int) by omega]
    obtain ⟨u, hu⟩ := Int.eq_ofNat_of_zero_le (show 0 ≤ x % 18446744073709551616 * 2 % 18446744073709551616 by omega)
    have hx2 := xor_ones 64 u (by omega)
    rw [hu]
    show IntKind.u64.wrap (((BitVec.ofInt 64 (u : Int)) ^^^ (BitVec.ofInt 64 ((2 ^ 64 - 1 : Nat) : Int))).toNat : Int) = _
    rw [BitVec.ofInt_natCast, BitVec.ofInt_natCast, BitVec.toNat_xor, BitVec.toNat_ofNat, BitVec.toNat_ofNat, Nat.mod_eq_of_lt (by omega : u < 2 ^ 64), Nat.mod_eq_of_lt (by omega : 2 ^ 64 - 1 < 2 ^ 64), hx2, hw]
    omega
set_option maxRecDepth 100000 in
set_option maxHeartbeats 4000000 in
theorem zig_any (x : Int) (w : World) (hx : -9223372036854775808 ≤ x ∧ x ≤ 9223372036854775807) : Calls Try.prog 38 #[.int .i64 x] w fun e w' => e = .returned (.int .u64 (zigZ x : Int)) ∧ w = w' := by
  go_enter Try.func38, Try.ntmps38
  go_wp2_with fail
  go_ret
  exact ⟨by rw [← zig_bits x hx]; rfl, rfl⟩
end Go.Proofs.Ytaklfjjkeebheaa
/-
  Walks: a writer's Text.
-/
namespace Go.Proofs.Ytaklfjjkeebheaa
set_option linter.unusedVariables false
set_option linter.unusedSimpArgs false
open Go Go.RowKit
/-- A writer in memory: its bound, its bytes. -/
def WrtAt (w : World) (b : Nat) (most : Int) (bs : List Nat) : Prop := ∃ v, Blk w b #[.int .i64 most, v] 83 ∧ ((v = .slice none 0 0 ∧ bs = []) ∨ ∃ g cap cur, v = .slice (some ⟨g, 0, none⟩) bs.length cap ∧ g ≠ b ∧ Blk w g cur 5 ∧ ∀ j (h : j < bs.length), cur[j]? = some (.int .u8 (bs[j] : Int)))
set_option maxRecDepth 100000 in
set_option maxHeartbeats 4000000 in
theorem wText_any (b : Nat) (most : Int) (bs : List Nat) (w : World) (h : WrtAt w b most bs) (hb8 : ∀ c ∈ bs, c < 256) : Calls Try.prog 21 #[.pointer (some ⟨b, 0, none⟩)] w fun e' w' => e' = .returned (.string (bstr bs)) ∧ w = w' := by
  obtain ⟨v, hb, hv⟩ := h
  have c1 := hb.cell 1 rfl
  clear hb
  rcases hv with ⟨rfl, rfl⟩ | ⟨g, cap, cur, rfl, -, hg, hc⟩
  · have k1 : (convert 81 9 (.slice none 0 0)).run Try.prog w = .ok (.string ⟨#[]⟩) w := run_convert_bytes_string w 81 9 5 none 0 0 Try.underlying81 Try.underlying5 Try.underlying9
    go_enter Try.func21, Try.ntmps21
    go_wp2_with fail
    go_ret
    exact ⟨rfl, rfl⟩
  · have k1 := run_conv_bytes w g 0 cap bs hb8 (fun j h => by rw [Nat.zero_add]; exact hg.cell j (hc j h))
    clear hg hc hb8
    go_enter Try.func21, Try.ntmps21
    go_wp2_with fail
    go_ret
    exact ⟨rfl, rfl⟩
end Go.Proofs.Ytaklfjjkeebheaa
/-
  Walk: the reader's closure for a number.
-/
namespace Go.Proofs.Ytaklfjjkeebheaa
set_option linter.unusedVariables false
set_option linter.unusedSimpArgs false
open Go Go.RowKit
def num1E (s : ByteArray) (most : Nat) : Nat := if (getN (byt s)).2.2 = 0 ∧ most < (getN (byt s)).1 then 20 else (getN (byt s)).2.2
set_option maxRecDepth 100000 in
set_option maxHeartbeats 4000000 in
theorem num1_any (s : ByteArray) (most p : Nat) (w : World) (hp : w.cell? ⟨p, 0, none⟩ = some (.int .u64 (most : Int))) (hs : s.size ≤ 9223372036854775807) : Calls Try.prog 62 #[.string s, .pointer (some ⟨p, 0, none⟩)] w fun e' w' =>
    e' = .returned (.tuple #[.int .u64 ((getN (byt s)).1 : Int), .int .i64 ((getN (byt s)).2.1 : Int), .int .i64 (num1E s most : Int)]) ∧ w = w' := by
  have HG := hid (get_any s w hs)
  unfold num1E
  generalize getN (byt s) = r at HG ⊢
  obtain ⟨n, size, e⟩ := r
  dsimp only at HG ⊢
  clear hs
  by_cases he : e = 0
  · subst he
    by_cases hn : most < n
    · rw [if_pos ⟨rfl, hn⟩]
      have j1 : decide ((most : Int) < (n : Int)) = true := decide_eq_true (by omega)
      have j2 : decide (most < n) = true := decide_eq_true hn
      clear hn
      go_enter Try.func62, Try.ntmps62
      go_wp2_with fail
      refine HG.out.mono ?_
      rintro e' w' ⟨rfl, rfl⟩
      go_wp2_with fail
      exact bodyPost_ret (v := .tuple #[.int .u64 (n : Int), .int .i64 (size : Int), .int .i64 20]) (by simp [results, Try.results62, go_sem]) rfl ⟨rfl, rfl⟩
    · rw [if_neg (fun h => hn h.2)]
      have j1 : decide ((most : Int) < (n : Int)) = false := decide_eq_false (by omega)
      have j2 : decide (most < n) = false := decide_eq_false hn
      clear hn
      go_enter Try.func62, Try.ntmps62
      go_wp2_with fail
      refine HG.out.mono ?_
      rintro e' w' ⟨rfl, rfl⟩
      go_wp2_with fail
      exact bodyPost_ret (v := .tuple #[.int .u64 (n : Int), .int .i64 (size : Int), .int .i64 0]) (by simp [results, Try.results62, go_sem]) rfl ⟨rfl, rfl⟩
  · rw [if_neg (fun h => he h.1)]
    have j1 : ((e : Int) == 0) = false := beq_eq_false_iff_ne.2 (by omega)
    have j2 : (e == 0) = false := beq_eq_false_iff_ne.2 he
    clear he
    go_enter Try.func62, Try.ntmps62
    go_wp2_with fail
    refine HG.out.mono ?_
    rintro e' w' ⟨rfl, rfl⟩
    go_wp2_with fail
    exact bodyPost_ret (v := .tuple #[.int .u64 (n : Int), .int .i64 (size : Int), .int .i64 (e : Int)]) (by simp [results, Try.results62, go_sem]) rfl ⟨rfl, rfl⟩
end Go.Proofs.Ytaklfjjkeebheaa
/-
  Walk: read of a number.
-/
namespace Go.Proofs.Ytaklfjjkeebheaa
set_option linter.unusedVariables false
set_option linter.unusedSimpArgs false
open Go Go.RowKit
set_option maxRecDepth 100000 in
set_option maxHeartbeats 4000000 in
theorem read64_err (b : Nat) (s : ByteArray) (at_ e : Nat) (fv : Value) (w : World) (h : RdrAt w b s at_ e) (he : e ≠ 0) : Calls Try.prog 61 #[.pointer (some ⟨b, 0, none⟩), fv] w fun e' w' => e' = .returned (.tuple #[.int .u64 0, .int .i64 (e : Int)]) ∧ Below w.heap.size w w' := by
  have c2 : w.cell? ⟨b, 2, none⟩ = some (.int .i64 (e : Int)) := Blk.cell h 2 rfl
  have j1 : ((e : Int) == 0) = false := beq_eq_false_iff_ne.2 (by omega)
  have j2 : (e == 0) = false := beq_eq_false_iff_ne.2 he
  have j3 : ((e : Int) != 0) = true := bne_iff_ne.2 (by omega)
  have j4 : (e != 0) = true := bne_iff_ne.2 he
  have HH := hid h
  clear h he
  go_enter Try.func61, Try.ntmps61
  go_wp2_with fail
  go_quiet (fail)
  go_wp2_with fail
  go_ret2
  exact ⟨rfl, ext_drewN (ext_refl _) _⟩
end Go.Proofs.Ytaklfjjkeebheaa
/-
  Walk: read of a number, where nothing was wrong ahead.
-/
namespace Go.Proofs.Ytaklfjjkeebheaa
set_option linter.unusedVariables false
set_option linter.unusedSimpArgs false
set_option linter.unusedVariables false
open Go Go.RowKit
theorem byt_from (s : ByteArray) (a : Nat) : byt (s.extract a s.size) = (byt s).drop a := by
  unfold byt
  rw [ByteArray.data_extract, Array.toList_extract, List.map_take, List.map_drop]
  rw [List.take_of_length_le]
  simp
/-- What a read of a number tells. -/
def ReadP (b : Nat) (s : ByteArray) (r : Nat × Rdr) (w : World) (e' : Ending) (w' : World) : Prop :=
  e' = .returned (.tuple #[.int .u64 (r.1 : Int), .int .i64 (r.2.err : Int)]) ∧ RdrAt w' b s r.2.at_ r.2.err ∧ Turn [b] w w'
theorem num_wrong {s : List Nat} {at_ most n size er : Nat} (hg : getN (s.drop at_) = (n, size, er)) (h : (if er = 0 ∧ most < n then 20 else er) ≠ 0) : numR ⟨s, at_, 0⟩ most = (0, ⟨s, at_, if er = 0 ∧ most < n then 20 else er⟩) := by
  unfold numR
  dsimp only
  rw [if_neg (by omega), hg]
  dsimp only
  by_cases he : er = 0
  · subst he
    by_cases hn : most < n
    · rw [if_neg (by omega), if_pos hn, if_pos ⟨rfl, hn⟩]
    · rw [if_neg (fun h => hn h.2)] at h; omega
  · rw [if_pos he, if_neg (fun h => he h.1)]
theorem num_fine {s : List Nat} {at_ most n size er : Nat} (hg : getN (s.drop at_) = (n, size, er)) (h : (if er = 0 ∧ most < n then 20 else er) = 0) : numR ⟨s, at_, 0⟩ most = (n, ⟨s, at_ + size, 0⟩) ∧ er = 0 := by
  by_cases he : er = 0
  · subst he
    by_cases hn : most < n
    · rw [if_pos ⟨rfl, hn⟩] at h; cases h
    · refine ⟨?_, rfl⟩
      unfold numR
      dsimp only
      rw [if_neg (by omega), hg]
      dsimp only
      rw [if_neg (by omega), if_neg hn]
  · rw [if_neg (fun h => he h.1)] at h; exact absurd h he
set_option maxRecDepth 100000 in
set_option maxHeartbeats 4000000 in
theorem read64_ok (b p : Nat) (s : ByteArray) (at_ most : Nat) (w : World) (h : RdrAt w b s at_ 0) (hp : w.cell? ⟨p, 0, none⟩ = some (.int .u64 (most : Int))) (hs : s.size ≤ 16777216) (ha : at_ ≤ s.size) : Calls Try.prog 61 #[.pointer (some ⟨b, 0, none⟩), .func (.func 62) #[] #[.pointer (some ⟨p, 0, none⟩)]] w (ReadP b s (numR ⟨byt s, at_, 0⟩ most) w) := by
  have c0 : w.cell? ⟨b, 0, none⟩ = some (.string s) := Blk.cell h 0 rfl
  have c1 : w.cell? ⟨b, 1, none⟩ = some (.int .i64 (at_ : Int)) := Blk.cell h 1 rfl
  have c2 : w.cell? ⟨b, 2, none⟩ = some (.int .i64 0) := Blk.cell h 2 rfl
  have z1 := Blk.free h 1
  have z2 := Blk.free h 2
  have HNUM := hid (fun (w' : World) (h : w'.cell? ⟨p, 0, none⟩ = some (.int .u64 (most : Int))) => (num1_any (s.extract at_ s.size) most p w' h (by simp; omega)).mono fun e' w'' hh => And.intro hh.1 hh.2.symm)
  unfold num1E at HNUM
  rw [byt_from] at HNUM
  obtain ⟨n, size, er, hg⟩ : ∃ n size er, getN ((byt s).drop at_) = (n, size, er) := ⟨_, _, _, rfl⟩
  have hsz : er = 0 → at_ + size ≤ s.size := fun h0 => by
    subst h0
    have := (put_get (fun c hc => byt_lt s c (List.mem_of_mem_drop hc)) hg).2.2.2
    rw [List.length_drop, byt_len] at this
    omega
  rw [hg] at HNUM
  dsimp only at HNUM
  have HH := hid h
  have g0 : (0 : Int) ≤ (at_ : Int) := by omega
  have g1 : (at_ : Int) ≤ (s.size : Int) := by omega
  have g2 : at_ ≤ s.size := ha
  have HS := hid hs
  have HP := hid hp
  obtain ⟨E, hE⟩ : ∃ E, E = (if er = 0 ∧ most < n then 20 else er) := ⟨_, rfl⟩
  rw [← hE] at HNUM
  by_cases h0 : E = 0
  · obtain ⟨hn, he⟩ := num_fine (most := most) hg (by rw [← hE]; exact h0)
    rw [hn]
    have hz := hsz he
    have j1 : IntKind.i64.wrap ((at_ : Int) + (size : Int)) = (at_ : Int) + (size : Int) := IntWalk.i64_in _ (by omega)
    subst h0
    have HG := hid hg
    obtain ⟨Q, hQ⟩ : ∃ Q, Q = ReadP b s (n, ⟨byt s, at_ + size, 0⟩) w := ⟨_, rfl⟩
    rw [← hQ]
    have HQ := hid hQ
    clear h hs ha hg hsz hn hz hE he hp hQ
    go_enter Try.func61, Try.ntmps61
    go_wp2_with fail
    go_quiet (exact Calls.quiet_of_same (HNUM.out _ HP.out))
    go_wp2_with fail
    rw [HQ.out]
    refine ⟨rfl, ?_, ((Turn.refl _ _).drewN _).setCell (Or.inl (by simp)) _⟩
    have := (HH.out.below (ext_drewN (ext_refl _) nq)).set 1 (.int .i64 ((at_ : Int) + (size : Int)))
    exact this
  · have hn := num_wrong (most := most) hg (by rw [← hE]; exact h0)
    rw [← hE] at hn
    rw [hn]
    have j1 : ((E : Int) == 0) = false := beq_eq_false_iff_ne.2 (by omega)
    have j2 : (E == 0) = false := beq_eq_false_iff_ne.2 h0
    have j3 : ((E : Int) != 0) = true := bne_iff_ne.2 (by omega)
    have j4 : (E != 0) = true := bne_iff_ne.2 h0
    obtain ⟨Q, hQ⟩ : ∃ Q, Q = ReadP b s (0, ⟨byt s, at_, E⟩) w := ⟨_, rfl⟩
    rw [← hQ]
    have HQ := hid hQ
    clear h hs ha hg hsz hn hE hp hQ h0
    go_enter Try.func61, Try.ntmps61
    go_wp2_with fail
    go_quiet (exact Calls.quiet_of_same (HNUM.out _ HP.out))
    go_wp2_with fail
    rw [HQ.out]
    refine ⟨rfl, ?_, ((Turn.refl _ _).drewN _).setCell (Or.inl (by simp)) _⟩
    have := (HH.out.below (ext_drewN (ext_refl _) nq)).set 2 (.int .i64 (E : Int))
    exact this
theorem read64_any (b p : Nat) (s : ByteArray) (at_ e most : Nat) (w : World) (h : RdrAt w b s at_ e) (hp : w.cell? ⟨p, 0, none⟩ = some (.int .u64 (most : Int))) (hs : s.size ≤ 16777216) (ha : at_ ≤ s.size) : Calls Try.prog 61 #[.pointer (some ⟨b, 0, none⟩), .func (.func 62) #[] #[.pointer (some ⟨p, 0, none⟩)]] w (ReadP b s (numR ⟨byt s, at_, e⟩ most) w) := by
  by_cases he : e = 0
  · subst he; exact read64_ok b p s at_ most w h hp hs ha
  · have : numR ⟨byt s, at_, e⟩ most = (0, ⟨byt s, at_, e⟩) := by unfold numR; dsimp only; rw [if_pos he]
    rw [this]
    exact (read64_err b s at_ e _ w h he).mono fun e' w' hh => ⟨hh.1, h.below hh.2, Turn.of_below hh.2⟩
end Go.Proofs.Ytaklfjjkeebheaa
/-
  Walks: a reader's Num, Int, Fail; Zag.
-/
namespace Go.Proofs.Ytaklfjjkeebheaa
set_option linter.unusedVariables false
set_option linter.unusedSimpArgs false
set_option linter.unusedVariables false
open Go Go.RowKit
set_option maxRecDepth 100000 in
set_option maxHeartbeats 4000000 in
theorem rnum_any (b : Nat) (s : ByteArray) (at_ e most : Nat) (w : World) (h : RdrAt w b s at_ e) (hs : s.size ≤ 16777216) (ha : at_ ≤ s.size) (hm : most ≤ 18446744073709551615) : Calls Try.prog 48 #[.pointer (some ⟨b, 0, none⟩), .int .u64 (most : Int)] w (ReadP b s (numR ⟨byt s, at_, e⟩ most) w) := by
  obtain ⟨W1, hW1⟩ : ∃ W1, W1 = w.alloc (.cells #[.int .u64 (most : Int)] 61) := ⟨_, rfl⟩
  have hb1 : Below w.heap.size w W1 := by rw [hW1]; exact ext_alloc (ext_refl _) _
  have hbp : Blk W1 w.heap.size #[.int .u64 (most : Int)] 61 := by rw [hW1]; exact Blk.new _ _ _
  have HR := hid (read64_any b w.heap.size s at_ e most W1 (h.below hb1) (hbp.cell 0 rfl) hs ha)
  have HB1 := hid hb1
  have HW1 := hid hW1
  obtain ⟨r, hr⟩ : ∃ r, r = numR ⟨byt s, at_, e⟩ most := ⟨_, rfl⟩
  rw [← hr] at HR ⊢
  obtain ⟨Q, hQ⟩ : ∃ Q, Q = ReadP b s r w := ⟨_, rfl⟩
  rw [← hQ]
  have HQ := hid hQ
  clear h hb1 hbp hs ha hm hr hW1 hQ
  go_enter Try.func48, Try.ntmps48
  go_wp2_with fail
  rw [← HW1.out]
  refine HR.out.mono ?_
  rintro e' w2 ⟨rfl, hra, hT⟩
  go_wp2_with fail
  rw [HQ.out]
  exact ⟨rfl, hra, (Turn.of_below HB1.out).trans hT⟩
set_option maxRecDepth 100000 in
set_option maxHeartbeats 4000000 in
theorem rfail_any (b : Nat) (s : ByteArray) (at_ e place : Nat) (w : World) (h : RdrAt w b s at_ e) (hp : place ≤ at_) : Calls Try.prog 49 #[.pointer (some ⟨b, 0, none⟩), .int .i64 (place : Int), .int .i64 20] w fun e' w' => (∃ v, e' = .returned v) ∧ RdrAt w' b s (failR ⟨byt s, at_, e⟩ place).at_ (failR ⟨byt s, at_, e⟩ place).err ∧ Turn [b] w w' := by
  have HH := hid h
  have c1 : w.cell? ⟨b, 1, none⟩ = some (.int .i64 (at_ : Int)) := Blk.cell h 1 rfl
  have c2 : w.cell? ⟨b, 2, none⟩ = some (.int .i64 (e : Int)) := Blk.cell h 2 rfl
  have z1 := Blk.free h 1
  have z2 := Blk.free (Blk.set h 1 (.int .i64 (place : Int))) 2
  have z3 := Blk.cell (Blk.set h 1 (.int .i64 (place : Int))) 2 (v := .int .i64 (e : Int)) rfl
  by_cases he : e = 0
  · subst he
    have g1 : decide ((place : Int) < 0) = false := decide_eq_false (by omega)
    have g2 : decide ((at_ : Int) < (place : Int)) = false := decide_eq_false (by omega)
    have g3 : decide (at_ < place) = false := decide_eq_false (by omega)
    have hf : failR ⟨byt s, at_, 0⟩ place = ⟨byt s, place, 20⟩ := rfl
    rw [hf]
    obtain ⟨Q, hQ⟩ : ∃ Q : Ending → World → Prop, Q = fun e' w' => (∃ v, e' = .returned v) ∧ RdrAt w' b s place 20 ∧ Turn [b] w w' := ⟨_, rfl⟩
    rw [← hQ]
    have HQ := hid hQ
    clear h hp hf hQ
    go_enter Try.func49, Try.ntmps49
    go_wp2_with fail
    rw [HQ.out]
    exact ⟨⟨_, rfl⟩, (Blk.set HH.out 1 _).set 2 _, ((Turn.refl _ _).setCell (Or.inl (by simp)) _).setCell (Or.inl (by simp)) _⟩
  · have j1 : ((e : Int) == 0) = false := beq_eq_false_iff_ne.2 (by omega)
    have j2 : (e == 0) = false := beq_eq_false_iff_ne.2 he
    have j3 : ((e : Int) != 0) = true := bne_iff_ne.2 (by omega)
    have j4 : (e != 0) = true := bne_iff_ne.2 he
    have hf : failR ⟨byt s, at_, e⟩ place = ⟨byt s, at_, e⟩ := by unfold failR; dsimp only; rw [if_pos he]
    rw [hf]
    obtain ⟨Q, hQ⟩ : ∃ Q : Ending → World → Prop, Q = fun e' w' => (∃ v, e' = .returned v) ∧ RdrAt w' b s at_ e ∧ Turn [b] w w' := ⟨_, rfl⟩
    rw [← hQ]
    have HQ := hid hQ
    clear h hp hf hQ he
    go_enter Try.func49, Try.ntmps49
    go_wp2_with fail
    rw [HQ.out]
    exact ⟨⟨_, rfl⟩, HH.out, Turn.refl _ _⟩
end Go.Proofs.Ytaklfjjkeebheaa
/-
  Walks: Zag, a reader's Int.
-/
namespace Go.Proofs.Ytaklfjjkeebheaa
set_option linter.unusedVariables false
set_option linter.unusedSimpArgs false
set_option linter.unusedVariables false
open Go Go.RowKit
theorem and_one_bits (n : Nat) (hn : n < 18446744073709551616) : bits .and .u64 (n : Int) 1 = ((n % 2 : Nat) : Int) := by
  have hw : ∀ y : Int, IntKind.u64.wrap y = y % 18446744073709551616 := fun y => by simp [IntKind.wrap, IntKind.signed, IntKind.bits]
  show IntKind.u64.wrap (((BitVec.ofInt 64 (n : Int)) &&& (BitVec.ofInt 64 ((1 : Nat) : Int))).toNat : Int) = _
  rw [BitVec.ofInt_natCast, BitVec.ofInt_natCast, BitVec.toNat_and, BitVec.toNat_ofNat, BitVec.toNat_ofNat, Nat.mod_eq_of_lt (by omega : n < 2 ^ 64), Nat.mod_eq_of_lt (by omega : 1 < 2 ^ 64), Nat.and_one_is_mod, hw]
  omega
theorem zag_bits (n : Nat) (hn : n < 18446744073709551616) : bits .xor .i64 ((n : Int) / 2) (wrap64 (-wrap64 (bits .and .u64 (n : Int) 1))) = zagZ n := by
  rw [and_one_bits n hn]
  have hh : (n : Int) / 2 = ((n / 2 : Nat) : Int) := by omega
  rw [hh]
  unfold zagZ
  by_cases h0 : n % 2 = 0
  · rw [if_pos h0, h0]
    have e : wrap64 (-wrap64 ((0 : Nat) : Int)) = ((0 : Nat) : Int) := by unfold wrap64; omega
    rw [e]
    show IntKind.i64.wrap (((BitVec.ofInt 64 ((n / 2 : Nat) : Int)) ^^^ (BitVec.ofInt 64 ((0 : Nat) : Int))).toNat : Int) = _
    rw [BitVec.ofInt_natCast, BitVec.ofInt_natCast, BitVec.toNat_xor, BitVec.toNat_ofNat, BitVec.toNat_ofNat, Nat.mod_eq_of_lt (by omega : n / 2 < 2 ^ 64), Nat.zero_mod, Nat.xor_zero]
    exact IntWalk.i64_in _ (by omega)
  · rw [if_neg h0, show n % 2 = 1 by omega]
    have e : wrap64 (-wrap64 ((1 : Nat) : Int)) = -1 := by unfold wrap64; omega
    rw [e]
    have hx2 := xor_ones 64 (n / 2) (by omega)
    have h1 : BitVec.ofInt 64 (-1) = BitVec.ofNat 64 (2 ^ 64 - 1) := by decide
    show IntKind.i64.wrap (((BitVec.ofInt 64 ((n / 2 : Nat) : Int)) ^^^ (BitVec.ofInt 64 (-1))).toNat : Int) = _
    rw [h1, BitVec.ofInt_natCast, BitVec.toNat_xor, BitVec.toNat_ofNat, BitVec.toNat_ofNat, Nat.mod_eq_of_lt (by omega : n / 2 < 2 ^ 64), Nat.mod_eq_of_lt (by omega : 2 ^ 64 - 1 < 2 ^ 64), hx2]
    have : ((2 ^ 64 - 1 - n / 2 : Nat) : Int) = 18446744073709551616 - 1 - ((n / 2 : Nat) : Int) := by omega
    rw [this]
    simp only [IntKind.wrap, IntKind.signed, IntKind.bits]
    simp
    omega
set_option maxRecDepth 100000 in
set_option maxHeartbeats 4000000 in
theorem zag_any (n : Nat) (w : World) (hn : n < 18446744073709551616) : Calls Try.prog 50 #[.int .u64 (n : Int)] w fun e w' => e = .returned (.int .i64 (zagZ n)) ∧ w = w' := by
  go_enter Try.func50, Try.ntmps50
  go_wp2_with fail
  go_ret
  exact ⟨by rw [← zag_bits n hn]; rfl, rfl⟩
/-- A number that is read is not greater than the bound. -/
theorem numR_le (r : Rdr) (most : Nat) : (numR r most).1 ≤ most := by
  unfold numR
  split
  · exact Nat.zero_le _
  · split
    split
    · exact Nat.zero_le _
    · split
      · exact Nat.zero_le _
      · omega
/-- What holds of a reader. -/
def RdOk (s : ByteArray) (r : Rdr) : Prop := r.s = byt s ∧ r.at_ ≤ s.size
theorem numR_ok {s : ByteArray} {r : Rdr} (h : RdOk s r) (most : Nat) : RdOk s (numR r most).2 ∧ r.at_ ≤ (numR r most).2.at_ := by
  obtain ⟨rs, ra, re⟩ := r
  obtain ⟨h1, h2⟩ := h
  dsimp only at h1 h2
  subst h1
  unfold numR
  dsimp only
  by_cases he : re = 0
  · rw [if_neg (by omega)]
    rcases hg : getN ((byt s).drop ra) with ⟨n, size, er⟩
    dsimp only
    by_cases h0 : er = 0
    · subst h0
      have := (put_get (fun c hc => byt_lt s c (List.mem_of_mem_drop hc)) hg).2.2.2
      rw [List.length_drop, byt_len] at this
      rw [if_neg (by omega)]
      split
      · exact ⟨⟨rfl, h2⟩, Nat.le_refl _⟩
      · exact ⟨⟨rfl, by dsimp only; omega⟩, by dsimp only; omega⟩
    · rw [if_pos h0]
      exact ⟨⟨rfl, h2⟩, Nat.le_refl _⟩
  · rw [if_pos he]
    exact ⟨⟨rfl, h2⟩, Nat.le_refl _⟩
set_option maxRecDepth 100000 in
set_option maxHeartbeats 4000000 in
theorem rint_any (b : Nat) (s : ByteArray) (at_ e : Nat) (w : World) (h : RdrAt w b s at_ e) (hs : s.size ≤ 16777216) (ha : at_ ≤ s.size) : Calls Try.prog 30 #[.pointer (some ⟨b, 0, none⟩)] w fun e' w' => (e' = .returned (.tuple #[.int .i64 (zagZ (numR ⟨byt s, at_, e⟩ maxU).1), .int .i64 ((numR ⟨byt s, at_, e⟩ maxU).2.err : Int)]) ∧ RdrAt w' b s (numR ⟨byt s, at_, e⟩ maxU).2.at_ (numR ⟨byt s, at_, e⟩ maxU).2.err ∧ Turn [b] w w') := by
  have HN := hid (rnum_any b s at_ e maxU w h hs ha (by unfold maxU; omega))
  have hle := numR_le ⟨byt s, at_, e⟩ maxU
  obtain ⟨r, hr⟩ : ∃ r, r = numR ⟨byt s, at_, e⟩ maxU := ⟨_, rfl⟩
  rw [← hr] at HN hle ⊢
  have HZ := hid (fun w' => zag_any r.1 w' (by unfold maxU at hle; omega))
  unfold maxU at HN
  clear h hs ha hr hle
  obtain ⟨Q, hQ⟩ : ∃ Q : Ending → World → Prop, Q = fun e' w' => (e' = .returned (.tuple #[.int .i64 (zagZ r.1), .int .i64 (r.2.err : Int)]) ∧ RdrAt w' b s r.2.at_ r.2.err ∧ Turn [b] w w') := ⟨_, rfl⟩
  rw [← hQ]
  have HQ := hid hQ
  clear hQ
  go_enter Try.func30, Try.ntmps30
  go_wp2_with fail
  refine HN.out.mono ?_
  rintro e' w2 ⟨rfl, hra, hT⟩
  go_wp2_with fail
  refine (HZ.out _).mono ?_
  rintro e' w3 ⟨rfl, rfl⟩
  go_wp2_with fail
  rw [HQ.out]
  exact ⟨rfl, hra, hT⟩
end Go.Proofs.Ytaklfjjkeebheaa
/-
  Walk: (*Reader).End.
-/
namespace Go.Proofs.Ytaklfjjkeebheaa
set_option linter.unusedVariables false
set_option linter.unusedSimpArgs false
set_option linter.unusedVariables false
open Go Go.RowKit
/-- What a reader is when its end was asked. -/
def endR (r : Rdr) : Rdr := if r.err ≠ 0 then r else if r.at_ < r.s.length then { r with err := 10 } else r
set_option maxRecDepth 100000 in
set_option maxHeartbeats 4000000 in
theorem end1_yes (s : ByteArray) (w : World) (hs : s.size = 0) : Calls Try.prog 34 #[.string s] w fun e' w' => e' = .returned (.tuple #[.bool true, .int .i64 0, .int .i64 0]) ∧ w = w' := by
  have h1 : s = ⟨#[]⟩ := byt_inj (List.eq_nil_of_length_eq_zero (by rw [byt_len]; exact hs))
  subst h1
  clear hs
  go_enter Try.func34, Try.ntmps34
  go_wp2_with fail
  exact bodyPost_ret (v := .tuple #[.bool true, .int .i64 0, .int .i64 0]) (by simp [results, Try.results34, go_sem]) rfl ⟨rfl, rfl⟩
set_option maxRecDepth 100000 in
set_option maxHeartbeats 4000000 in
theorem end1_no (s : ByteArray) (w : World) (hs : s.size ≠ 0) : Calls Try.prog 34 #[.string s] w fun e' w' => e' = .returned (.tuple #[.bool false, .int .i64 0, .int .i64 10]) ∧ w = w' := by
  have h1 : s.toList ≠ [] := by
    intro h
    rw [ByteArray.toList_eq] at h
    apply hs
    rw [← byt_len]; unfold byt; rw [h]; rfl
  have h2 : (s.toList == []) = false := by rw [beq_eq_false_iff_ne]; exact h1
  have h3 : (s.toList != []) = true := by rw [bne_iff_ne]; exact h1
  clear hs
  go_enter Try.func34, Try.ntmps34
  go_wp2_with fail
  exact bodyPost_ret (v := .tuple #[.bool false, .int .i64 0, .int .i64 10]) (by simp [results, Try.results34, go_sem]) rfl ⟨rfl, rfl⟩
def EndP (b : Nat) (s : ByteArray) (r : Rdr) (w : World) (e' : Ending) (w' : World) : Prop :=
  (∃ x, e' = .returned (.tuple #[.bool x, .int .i64 (r.err : Int)])) ∧ RdrAt w' b s r.at_ r.err ∧ Turn [b] w w'
set_option maxRecDepth 100000 in
set_option maxHeartbeats 4000000 in
theorem readb_any (b : Nat) (s : ByteArray) (at_ e : Nat) (w : World) (h : RdrAt w b s at_ e) (hs : s.size ≤ 16777216) (ha : at_ ≤ s.size) : Calls Try.prog 33 #[.pointer (some ⟨b, 0, none⟩), .func (.func 34) #[] #[]] w (EndP b s (endR ⟨byt s, at_, e⟩) w) := by
  have c0 : w.cell? ⟨b, 0, none⟩ = some (.string s) := Blk.cell h 0 rfl
  have c1 : w.cell? ⟨b, 1, none⟩ = some (.int .i64 (at_ : Int)) := Blk.cell h 1 rfl
  have c2 : w.cell? ⟨b, 2, none⟩ = some (.int .i64 (e : Int)) := Blk.cell h 2 rfl
  have z1 := Blk.free h 1
  have z2 := Blk.free h 2
  have HH := hid h
  have g0 : (0 : Int) ≤ (at_ : Int) := by omega
  have g1 : (at_ : Int) ≤ (s.size : Int) := by omega
  have g2 : at_ ≤ s.size := ha
  by_cases he : e = 0
  · subst he
    by_cases hl : at_ < s.size
    · have HE := hid (fun (w' : World) => (end1_no (s.extract at_ s.size) w' (by simp; omega)).mono fun e' w'' hh => And.intro hh.1 hh.2.symm)
      have hf : endR ⟨byt s, at_, 0⟩ = ⟨byt s, at_, 10⟩ := by unfold endR; dsimp only; rw [if_neg (by simp), if_pos (by rw [byt_len]; exact hl)]
      rw [hf]
      obtain ⟨Q, hQ⟩ : ∃ Q, Q = EndP b s ⟨byt s, at_, 10⟩ w := ⟨_, rfl⟩
      rw [← hQ]
      have HQ := hid hQ
      clear h hs ha hl hf hQ
      go_enter Try.func33, Try.ntmps33
      go_wp2_with fail
      go_quiet (exact Calls.quiet_of_same (HE.out _))
      go_wp2_with fail
      rw [HQ.out]
      refine ⟨⟨_, rfl⟩, ?_, ((Turn.refl _ _).drewN _).setCell (Or.inl (by simp)) _⟩
      have := (HH.out.below (ext_drewN (ext_refl _) nq)).set 2 (.int .i64 10)
      exact this
    · have HE := hid (fun (w' : World) => (end1_yes (s.extract at_ s.size) w' (by simp; omega)).mono fun e' w'' hh => And.intro hh.1 hh.2.symm)
      have hf : endR ⟨byt s, at_, 0⟩ = ⟨byt s, at_, 0⟩ := by unfold endR; dsimp only; rw [if_neg (by simp), if_neg (by rw [byt_len]; exact hl)]
      rw [hf]
      have j1 : IntKind.i64.wrap ((at_ : Int) + 0) = (at_ : Int) := by rw [Int.add_zero]; exact IntWalk.i64_in _ (by omega)
      have j2 : IntKind.i64.wrap (at_ : Int) = (at_ : Int) := IntWalk.i64_in _ (by omega)
      have j3 : wrap64 (at_ : Int) = (at_ : Int) := by unfold wrap64; omega
      obtain ⟨Q, hQ⟩ : ∃ Q, Q = EndP b s ⟨byt s, at_, 0⟩ w := ⟨_, rfl⟩
      rw [← hQ]
      have HQ := hid hQ
      clear h hs ha hl hf hQ
      go_enter Try.func33, Try.ntmps33
      go_wp2_with fail
      go_quiet (exact Calls.quiet_of_same (HE.out _))
      go_wp2_with fail
      rw [HQ.out]
      refine ⟨⟨_, rfl⟩, ?_, ((Turn.refl _ _).drewN _).setCell (Or.inl (by simp)) _⟩
      have := (HH.out.below (ext_drewN (ext_refl _) nq)).set 1 (.int .i64 (at_ : Int))
      exact this
  · have j1 : ((e : Int) == 0) = false := beq_eq_false_iff_ne.2 (by omega)
    have j2 : (e == 0) = false := beq_eq_false_iff_ne.2 he
    have j3 : ((e : Int) != 0) = true := bne_iff_ne.2 (by omega)
    have j4 : (e != 0) = true := bne_iff_ne.2 he
    have hf : endR ⟨byt s, at_, e⟩ = ⟨byt s, at_, e⟩ := by unfold endR; dsimp only; rw [if_pos he]
    rw [hf]
    obtain ⟨Q, hQ⟩ : ∃ Q, Q = EndP b s ⟨byt s, at_, e⟩ w := ⟨_, rfl⟩
    rw [← hQ]
    have HQ := hid hQ
    clear h hs ha hf hQ he
    go_enter Try.func33, Try.ntmps33
    go_wp2_with fail
    go_quiet (fail)
    go_wp2_with fail
    rw [HQ.out]
    exact ⟨⟨_, rfl⟩, HH.out.below (ext_drewN (ext_refl _) _), (Turn.refl _ _).drewN _⟩
set_option maxRecDepth 100000 in
set_option maxHeartbeats 4000000 in
theorem rend_any (b : Nat) (s : ByteArray) (at_ e : Nat) (w : World) (h : RdrAt w b s at_ e) (hs : s.size ≤ 16777216) (ha : at_ ≤ s.size) : Calls Try.prog 14 #[.pointer (some ⟨b, 0, none⟩)] w fun e' w' => e' = .returned (.int .i64 ((endR ⟨byt s, at_, e⟩).err : Int)) ∧ RdrAt w' b s (endR ⟨byt s, at_, e⟩).at_ (endR ⟨byt s, at_, e⟩).err ∧ Turn [b] w w' := by
  have HR := hid (readb_any b s at_ e w h hs ha)
  generalize endR ⟨byt s, at_, e⟩ = r at HR ⊢
  obtain ⟨Q, hQ⟩ : ∃ Q : Ending → World → Prop, Q = fun e' w' => e' = .returned (.int .i64 (r.err : Int)) ∧ RdrAt w' b s r.at_ r.err ∧ Turn [b] w w' := ⟨_, rfl⟩
  rw [← hQ]
  have HQ := hid hQ
  clear h hs ha hQ
  go_enter Try.func14, Try.ntmps14
  go_wp2_with fail
  refine HR.out.mono ?_
  rintro e' w2 ⟨⟨x, rfl⟩, hra, hT⟩
  go_wp2_with fail
  rw [HQ.out]
  exact ⟨rfl, hra, hT⟩
end Go.Proofs.Ytaklfjjkeebheaa
