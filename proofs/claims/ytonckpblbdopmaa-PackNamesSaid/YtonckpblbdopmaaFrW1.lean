/-
  Walks: the sum of bytes (frame.register, its closure, Sum, seal) and the document's.
-/
import Derived.Test.YtonckpblbdopmaaProg
import Derived.Test.YtonckpblbdopmaaKit
import Derived.Test.YtonckpblbdopmaaCrc
import Derived.Deep.QuietTactic
import Derived.BigQuiet
import Derived.RegionTactic
import Derived.Deep.CutBlock
namespace Go.Proofs.Ytonckpblbdopmaa
set_option linter.unusedVariables false
open Go Go.RowKit

/-- A text's bytes, as numbers. -/
def byt (s : ByteArray) : List Nat := s.data.toList.map UInt8.toNat
theorem byt_lt (s : ByteArray) : ∀ c ∈ byt s, c < 256 := by
  intro c hc
  obtain ⟨u, -, rfl⟩ := List.mem_map.1 hc
  exact u.toNat_lt
theorem byt_len (s : ByteArray) : (byt s).length = s.size := by simp [byt]

theorem and1 (r : Nat) (hr : r < 4294967296) : bits .and .u32 (r : Int) 1 = ((r % 2 : Nat) : Int) := by
  rw [show (1 : Int) = ((1 : Nat) : Int) from rfl, u32_and_nat r 1 hr (by decide), Nat.and_one_is_mod]
theorem set_twice {w : World} {b o : Nat} {u v x : Value} (h : v = x) : (w.setCell ⟨b, o, none⟩ u).setCell ⟨b, o, none⟩ v = w.setCell ⟨b, o, none⟩ x := by
  subst h; exact set_set _ _ _ _ _

set_option maxRecDepth 100000 in
set_option maxHeartbeats 4000000 in
theorem regbit_any (r : Nat) (w : World) (b : Nat) (hr : r < 4294967296) (hc : Blk w b #[.int .u32 r] 24) :
    Calls Try.prog 103 #[.pointer (some ⟨b, 0, none⟩)] w fun e' w' => e' = .returned (.tuple #[]) ∧ w' = w.setCell ⟨b, 0, none⟩ (.int .u32 (bitN r)) := by
  have c0 := hc.cell 0 (v := .int .u32 r) rfl
  have f0 := hc.free 0
  have h0 : (0 : Int) ≤ (r : Int) := by omega
  have h1 : (r : Int) ≤ 4294967295 := by omega
  have HA := hid (and1 r hr)
  have HR := hid hr
  clear hr
  have HC := hid hc; clear hc
  go_enter Try.func103, Try.ntmps103
  go_wp2_with fail
  all_goals go_end0
  all_goals rename_i ht
  all_goals rw [HA.out] at ht
  · refine ⟨rfl, set_twice ?_⟩
    have hm : r % 2 = 1 := by simp at ht; omega
    have e : (r : Int) / 2 = ((r / 2 : Nat) : Int) := by omega
    rw [e, show (3988292384 : Int) = ((3988292384 : Nat) : Int) from rfl, u32_xor_nat _ _ (by have := HR.out; omega) (by decide)]
    unfold bitN
    rw [if_pos hm]
  · have hm : ¬ r % 2 = 1 := by simp at ht; omega
    have e : (r : Int) / 2 = ((r / 2 : Nat) : Int) := by omega
    unfold bitN
    rw [if_neg hm, e]
    exact ⟨rfl, rfl⟩

def itN : Nat → Nat → Nat
  | 0, r => r
  | k + 1, r => bitN (itN k r)
theorem itN_8 (r : Nat) : itN 8 r = bit8 r := by simp only [itN]; rfl
theorem itN_lt : ∀ (k : Nat) {r : Nat}, r < 4294967296 → itN k r < 4294967296
  | 0, _, h => h
  | k + 1, _, h => bitN_lt (itN_lt k h)
def catB (ts : List ByteArray) : List Nat := ts.flatMap byt
theorem catB_lt (ts : List ByteArray) : ∀ c ∈ catB ts, c < 256 := by
  intro c hc
  obtain ⟨s, -, h⟩ := List.mem_flatMap.1 hc
  exact byt_lt s c h
theorem catB_take (ts : List ByteArray) (k : Nat) (h : k < ts.length) : catB (ts.take (k + 1)) = catB (ts.take k) ++ byt ts[k] := by
  unfold catB
  rw [List.take_succ_eq_append_getElem h, List.flatMap_append]
  simp
theorem byt_take (s : ByteArray) (k : Nat) (h : k < s.size) : (byt s).take (k + 1) = (byt s).take k ++ [s[k].toNat] := by
  unfold byt
  rw [← List.map_take, List.take_succ_eq_append_getElem (by simpa using h), List.map_append, List.map_take]
  rfl
theorem regN_snoc (r : Nat) (l : List Nat) (c : Nat) : regN r (l ++ [c]) = bit8 (regN r l ^^^ c) := by rw [regN_append, regN_cons, regN_nil]
theorem xorc (r : Nat) (c : UInt8) (hr : r < 4294967296) : bits .xor .u32 (r : Int) ((c.toNat : Int) % 4294967296) = ((r ^^^ c.toNat : Nat) : Int) := by
  have := c.toNat_lt
  rw [Int.emod_eq_of_lt (by omega) (by omega)]
  exact u32_xor_nat _ _ hr (by omega)

set_option maxRecDepth 100000 in
set_option maxHeartbeats 4000000 in
theorem register_any (ts : List ByteArray) (w : World) (bk o c : Nat) (hsz : ∀ s ∈ ts, s.size ≤ 9223372036854775807) (hlen : ts.length ≤ 9223372036854775807) (hcells : ∀ (j : Nat) x, ts[j]? = some x → w.cell? ⟨bk, o + j, none⟩ = some (.string x)) :
    Calls Try.prog 62 #[.slice (some ⟨bk, o, none⟩) ts.length c] w fun e' w' => e' = .returned (.int .u32 (sumN (catB ts))) ∧ Below w.heap.size w w' := by
  have HCS := hid hcells; clear hcells
  have HSZ := hid hsz; clear hsz
  go_enter Try.func62, Try.ntmps62
  go_wp2_with fail
  go_loopw [11] (fun i wr => ∃ k : Nat, k ≤ ts.length ∧ i = .int .i64 k ∧ Hid (Blk wr w.heap.size #[.int .u32 (regN 4294967295 (catB (ts.take k)))] 24) ∧ Below w.heap.size w wr) (fun i _ => ts.length - (intOf i).toNat)
  case atStart => exact ⟨0, Nat.zero_le _, rfl, hid (by simpa [catB, regN_nil] using (Blk.new w #[.int .u32 4294967295] 24)), ext_alloc (ext_refl _) _⟩
  case round =>
    obtain ⟨wo, rfl⟩ : ∃ wo : World, wo = wr := ⟨_, rfl⟩
    obtain ⟨k, hk, rfl, HB, hb⟩ := hrel
    by_cases hlt : k < ts.length
    · have d0 := later hb (HCS.out k ts[k] (by simp [hlt]))
      have hs := HSZ.out ts[k] (by simp)
      have HTK := hid (catB_take ts k hlt)
      have hr0 := regN_lt (catB (ts.take k)) (r := 4294967295) (by decide) (catB_lt _)
      have HRN : Hid (regN 4294967295 (catB (ts.take (k + 1))) = regN (regN 4294967295 (catB (ts.take k))) (byt ts[k])) := hid (by rw [HTK.out, regN_append])
      generalize regN 4294967295 (catB (ts.take k)) = r0 at *
      generalize hs' : ts[k] = s at *
      clear HTK hs'
      have HR0 := hid hr0
      clear hr0
      go_wp2_with fail
      go_loopw [17] (fun i wr => ∃ j : Nat, j ≤ s.size ∧ i = .int .i64 j ∧ Hid (Blk wr w.heap.size #[.int .u32 (regN r0 ((byt s).take j))] 24) ∧ Below w.heap.size w wr) (fun i _ => s.size - (intOf i).toNat)
      case atStart => exact ⟨0, Nat.zero_le _, rfl, hid (by simpa [regN_nil] using HB.out), hb⟩
      case round =>
        obtain ⟨w2, rfl⟩ : ∃ w2 : World, w2 = wr := ⟨_, rfl⟩
        obtain ⟨j, hj, rfl, HB2, hb2⟩ := hrel
        by_cases hlt2 : j < s.size
        · have HTK := hid (byt_take s j hlt2)
          have hr1 := regN_lt ((byt s).take j) HR0.out (fun c hc => byt_lt s c (List.mem_of_mem_take hc))
          have HRN2 : Hid (regN r0 ((byt s).take (j + 1)) = bit8 (regN r0 ((byt s).take j) ^^^ s[j].toNat)) := hid (by rw [HTK.out, regN_snoc])
          clear HTK
          generalize regN r0 ((byt s).take j) = r1 at *
          have HX := hid (xorc r1 s[j] hr1)
          have HR1 := hid hr1
          have c0 := HB2.out.cell 0 (v := .int .u32 r1) rfl
          have f0 := HB2.out.free 0
          clear hr1
          go_wp2_with fail
          go_region
          all_goals rw [HX.out]
          have HB3 : Hid (Blk (w2.setCell ⟨w.heap.size, 0, none⟩ (.int .u32 ((r1 ^^^ s[j].toNat : Nat) : Int))).drew w.heap.size #[.int .u32 ((r1 ^^^ s[j].toNat : Nat) : Int)] 24) := hid (by simpa using (HB2.out.set 0 (.int .u32 ((r1 ^^^ s[j].toNat : Nat) : Int))).drew)
          have hx : r1 ^^^ s[j].toNat < 4294967296 := xor_lt 32 HR1.out (by have := s[j].toNat_lt; omega)
          have hb3 : Below w.heap.size w (w2.setCell ⟨w.heap.size, 0, none⟩ (.int .u32 ((r1 ^^^ s[j].toNat : Nat) : Int))).drew := ext_drew (ext_set hb2 (Nat.le_refl _) _)
          generalize r1 ^^^ s[j].toNat = x at *
          generalize (w2.setCell ⟨w.heap.size, 0, none⟩ (.int .u32 (x : Int))).drew = w3 at *
          have HXL := hid hx
          clear hx HX HB2 hb2 HR1 c0 f0
          go_wp2_with fail
          go_loopw [26] (fun i wr => ∃ m : Nat, m ≤ 8 ∧ i = .int .i64 m ∧ Hid (Blk wr w.heap.size #[.int .u32 (itN m x)] 24) ∧ Below w.heap.size w wr) (fun i _ => 8 - (intOf i).toNat)
          case atStart => exact ⟨0, by omega, rfl, HB3, hb3⟩
          case round =>
            obtain ⟨m, hm, rfl, HB4, hb4⟩ := hrel
            by_cases hlt3 : m < 8
            · have HIT := hid (itN_lt m HXL.out)
              have HBL := hid HB4.out.lt
              go_wp2_with fail
              refine (regbit_any _ _ _ HIT.out HB4.out).mono ?_
              rintro e' w5 ⟨rfl, rfl⟩
              go_wp2_with fail
              go_roundw
              case rel => exact ⟨m + 1, by omega, by go_num, hid (by simpa [itN] using HB4.out.set 0 (.int .u32 (bitN (itN m x) : Nat))), ext_set hb4 (Nat.le_refl _) _⟩
              case measure => simp [intOf]; omega
            · obtain rfl : m = 8 := by omega
              rw [itN_8] at HB4
              rw [← HRN2.out] at HB4
              go_wp2_with fail
              go_roundw
              case rel => exact ⟨j + 1, by omega, by go_num, HB4, hb4⟩
              case measure => simp [intOf]; omega
        · obtain rfl : j = s.size := by omega
          have HB5 : Hid (Blk w2 w.heap.size #[.int .u32 (regN r0 (byt s))] 24) := hid (by
            have h := HB2.out
            rwa [List.take_of_length_le (by rw [byt_len]; exact Nat.le_refl _)] at h)
          rw [← HRN.out] at HB5
          go_wp2_with fail
          go_roundw
          case rel => exact ⟨k + 1, by omega, by go_num, HB5, hb2⟩
          case measure => simp [intOf]; omega
    · obtain rfl : k = ts.length := by omega
      have HB' : Hid (Blk wo w.heap.size #[.int .u32 (regN 4294967295 (catB ts))] 24) := hid (by simpa using HB.out)
      have hr1 := regN_lt (catB ts) (r := 4294967295) (by decide) (catB_lt _)
      clear HB
      have HSM : Hid (sumN (catB ts) = 4294967295 - regN 4294967295 (catB ts)) := hid rfl
      generalize regN 4294967295 (catB ts) = r1 at *
      have c0 := HB'.out.cell 0 (v := .int .u32 r1) rfl
      clear hlt hk
      go_wp2_with fail
      go_ret
      refine ⟨ret_int ?_, hb⟩
      rw [show IntKind.u32.max = ((4294967295 : Nat) : Int) from rfl, u32_xor_nat _ _ (by decide) hr1, HSM.out, compl_xor hr1]

set_option maxRecDepth 100000 in
set_option maxHeartbeats 4000000 in
theorem sum_any (s : ByteArray) (w : World) (hs : s.size ≤ 9223372036854775807) :
    Calls Try.prog 19 #[.string s] w fun e' w' => e' = .returned (.int .u32 (sumN (byt s))) ∧ Below w.heap.size w w' := by
  have H := hid (register_any [s] (w.alloc (.cells #[.string s] 9)) w.heap.size 0 1 (by simpa using hs) (by simp) (by
    intro j x hj
    match j, hj with
    | 0, hj => simp at hj; subst hj; exact (Blk.new w #[.string s] 9).cell 0 rfl))
  go_enter Try.func19, Try.ntmps19
  go_wp2_with fail
  refine H.out.mono ?_
  rintro e' w1 ⟨rfl, hb1⟩
  go_wp2_with fail
  go_ret
  exact ⟨by simp [catB], ext_trans (ext_alloc (ext_refl _) _) hb1⟩

theorem xor_poly (q : Nat) (h : q < 4294967296) : bits .xor .u32 (q : Int) 3988292384 = ((q ^^^ 3988292384 : Nat) : Int) := u32_xor_nat q 3988292384 h (by decide)
set_option maxRecDepth 100000 in
set_option maxHeartbeats 4000000 in
theorem rsum_any (s : ByteArray) (w : World) (hs : s.size ≤ 9223372036854775807) :
    Calls Try.prog 24 #[.string s] w fun e' w' => e' = .returned (.int .u32 (sumN (byt s))) ∧ w = w' := by
  go_enter Try.func24, Try.ntmps24
  go_wp2_with fail
  go_loop [3, 4] (fun r i => ∃ j : Nat, j ≤ s.size ∧ i = .int .i64 j ∧ r = .int .u32 (regN 4294967295 ((byt s).take j))) (fun _ i => s.size - (intOf i).toNat)
  case atStart => exact ⟨0, Nat.zero_le _, rfl, by simp [regN_nil]⟩
  case round =>
    obtain ⟨j, hj, rfl, rfl⟩ := hrel
    have hr1 := regN_lt ((byt s).take j) (r := 4294967295) (by decide) (fun c hc => byt_lt s c (List.mem_of_mem_take hc))
    by_cases hlt2 : j < s.size
    · have HTK := hid (byt_take s j hlt2)
      have HRN2 : Hid (regN 4294967295 ((byt s).take (j + 1)) = bit8 (regN 4294967295 ((byt s).take j) ^^^ s[j].toNat)) := hid (by rw [HTK.out, regN_snoc])
      clear HTK
      generalize regN 4294967295 ((byt s).take j) = r1 at *
      have HX := hid (xorc r1 s[j] hr1)
      have hx : r1 ^^^ s[j].toNat < 4294967296 := xor_lt 32 hr1 (by have := s[j].toNat_lt; omega)
      go_upto_block 2 with (fail)
      rw [HX.out]
      generalize r1 ^^^ s[j].toNat = x at *
      have HXL := hid hx
      clear hx HX hr1
      go_wp2_with fail
      go_loop [3, 5] (fun r i => ∃ m : Nat, m ≤ 8 ∧ i = .int .i64 m ∧ r = .int .u32 (itN m x)) (fun _ i => 8 - (intOf i).toNat)
      case atStart => exact ⟨0, by omega, rfl, rfl⟩
      case round =>
        obtain ⟨m, hm, rfl, rfl⟩ := hrel
        have hl := itN_lt m HXL.out
        by_cases hlt3 : m < 8
        · have HB : Hid (itN (m + 1) x = bitN (itN m x)) := hid rfl
          generalize itN m x = y at *
          have h0 : (0 : Int) ≤ (y : Int) := by omega
          have h1 : (y : Int) ≤ 4294967295 := by omega
          have HXP := hid (xor_poly (y / 2) (by omega))
          by_cases hp : y % 2 = 1
          · have HBN : Hid (bitN y = (y / 2) ^^^ 3988292384) := hid (by unfold bitN; rw [if_pos hp])
            have ht : ((y : Int) % 2 == 1) = true := by rw [beq_iff_eq]; omega
            clear hp hl
            go_wp2_with fail
            go_round
            case rel => exact ⟨m + 1, by omega, by go_num, by rw [HB.out, HBN.out, ← HXP.out]; go_num⟩
            case measure => simp [intOf]; omega
          · have HBN : Hid (bitN y = y / 2) := hid (by unfold bitN; rw [if_neg hp])
            have ht : ((y : Int) % 2 == 1) = false := by rw [beq_eq_false_iff_ne]; omega
            clear hp hl
            go_wp2_with fail
            go_round
            case rel => exact ⟨m + 1, by omega, by go_num, by rw [HB.out, HBN.out]; go_num⟩
            case measure => simp [intOf]; omega
        · obtain rfl : m = 8 := by omega
          rw [itN_8] at *
          rw [← HRN2.out]
          go_wp2_with fail
          go_round
          case rel => exact ⟨j + 1, by omega, by go_num, rfl⟩
          case measure => simp [intOf]; omega
    · obtain rfl : j = s.size := by omega
      have HT : Hid ((byt s).take s.size = byt s) := hid (List.take_of_length_le (by rw [byt_len]; exact Nat.le_refl _))
      rw [HT.out]
      clear hr1
      have hr1 := regN_lt (byt s) (r := 4294967295) (by decide) (byt_lt s)
      have HSM : Hid (sumN (byt s) = 4294967295 - regN 4294967295 (byt s)) := hid rfl
      generalize regN 4294967295 (byt s) = r1 at *
      have h1 : (r1 : Int) ≤ 4294967295 := by omega
      clear hr1
      go_wp2_with fail
      go_ret
      exact ⟨ret_int (by rw [HSM.out]; omega), rfl⟩
end Go.Proofs.Ytonckpblbdopmaa
