/-
  Joined texts: Tf1 Tf5 Tf6 Tf7.
-/
import Derived.Test.YtaklfjjkeebheaaPbB
import Derived.Deep.LoopGhost
import Derived.Deep.RegionLaw
import Derived.Test.YtaklfjjkeebheaaShelf
import Derived.Lib.Strings
/-
  Walks of the frame: its register, its sum, the seal (FrW1, FrW2 behind DeB).
-/
namespace Go.Proofs.Ytaklfjjkeebheaa
set_option linter.unusedVariables false
set_option linter.unusedSimpArgs false
set_option linter.unusedVariables false
open Go Go.RowKit
theorem and1 (r : Nat) (hr : r < 4294967296) : bits .and .u32 (r : Int) 1 = ((r % 2 : Nat) : Int) := by
  rw [show (1 : Int) = ((1 : Nat) : Int) from rfl, u32_and_nat r 1 hr (by decide), Nat.and_one_is_mod]
theorem set_twice {w : World} {b o : Nat} {u v x : Value} (h : v = x) : (w.setCell ⟨b, o, none⟩ u).setCell ⟨b, o, none⟩ v = w.setCell ⟨b, o, none⟩ x := by
  subst h; exact set_set _ _ _ _ _

set_option maxRecDepth 100000 in
set_option maxHeartbeats 4000000 in
theorem regbit_any (r : Nat) (w : World) (b : Nat) (hr : r < 4294967296) (hc : Blk w b #[.int .u32 r] 64) :
    Calls Try.prog 46 #[.pointer (some ⟨b, 0, none⟩)] w fun e' w' => e' = .returned (.tuple #[]) ∧ w' = w.setCell ⟨b, 0, none⟩ (.int .u32 (bitN r)) := by
  have c0 := hc.cell 0 (v := .int .u32 r) rfl
  have f0 := hc.free 0
  have h0 : (0 : Int) ≤ (r : Int) := by omega
  have h1 : (r : Int) ≤ 4294967295 := by omega
  have HA := hid (and1 r hr)
  have HR := hid hr
  clear hr
  have HC := hid hc; clear hc
  go_enter Try.func46, Try.ntmps46
  go_wp2_with fail
  all_goals go_end0
  all_goals rename_i ht
  all_goals rw [HA.out] at ht
  · refine ⟨rfl, set_twice ?_⟩
    have hm : r % 2 = 1 := by simp at ht; omega
    have e : (r : Int) / 2 = ((r / 2 : Nat) : Int) := by omega
    rw [e, show (3988292384 : Int) = ((3988292384 : Nat) : Int) from rfl, u32_xor_nat _ _ (by have := HR.out; omega) (by decide)]
    unfold bitN
    rw [if_pos hm]
  · have hm : ¬ r % 2 = 1 := by simp at ht; omega
    have e : (r : Int) / 2 = ((r / 2 : Nat) : Int) := by omega
    unfold bitN
    rw [if_neg hm, e]
    exact ⟨rfl, rfl⟩

def itN : Nat → Nat → Nat
  | 0, r => r
  | k + 1, r => bitN (itN k r)
theorem itN_8 (r : Nat) : itN 8 r = bit8 r := by simp only [itN]; rfl
theorem itN_lt : ∀ (k : Nat) {r : Nat}, r < 4294967296 → itN k r < 4294967296
  | 0, _, h => h
  | k + 1, _, h => bitN_lt (itN_lt k h)
def catB (ts : List ByteArray) : List Nat := ts.flatMap byt
theorem catB_lt (ts : List ByteArray) : ∀ c ∈ catB ts, c < 256 := by
  intro c hc
  obtain ⟨s, -, h⟩ := List.mem_flatMap.1 hc
  exact byt_lt s c h
theorem catB_take (ts : List ByteArray) (k : Nat) (h : k < ts.length) : catB (ts.take (k + 1)) = catB (ts.take k) ++ byt ts[k] := by
  unfold catB
  rw [List.take_succ_eq_append_getElem h, List.flatMap_append]
  simp
theorem regN_snoc (r : Nat) (l : List Nat) (c : Nat) : regN r (l ++ [c]) = bit8 (regN r l ^^^ c) := by rw [regN_append, regN_cons, regN_nil]
theorem xorc (r : Nat) (c : UInt8) (hr : r < 4294967296) : bits .xor .u32 (r : Int) ((c.toNat : Int) % 4294967296) = ((r ^^^ c.toNat : Nat) : Int) := by
  have := c.toNat_lt
  rw [Int.emod_eq_of_lt (by omega) (by omega)]
  exact u32_xor_nat _ _ hr (by omega)

set_option maxRecDepth 100000 in
set_option maxHeartbeats 4000000 in
theorem register_any (ts : List ByteArray) (w : World) (bk o c : Nat) (hsz : ∀ s ∈ ts, s.size ≤ 9223372036854775807) (hlen : ts.length ≤ 9223372036854775807) (hcells : ∀ (j : Nat) x, ts[j]? = some x → w.cell? ⟨bk, o + j, none⟩ = some (.string x)) :
    Calls Try.prog 26 #[.slice (some ⟨bk, o, none⟩) ts.length c] w fun e' w' => e' = .returned (.int .u32 (sumN (catB ts))) ∧ Below w.heap.size w w' := by
  have HCS := hid hcells; clear hcells
  have HSZ := hid hsz; clear hsz
  go_enter Try.func26, Try.ntmps26
  go_wp2_with fail
  go_loopw [11] (fun i wr => ∃ k : Nat, k ≤ ts.length ∧ i = .int .i64 k ∧ Hid (Blk wr w.heap.size #[.int .u32 (regN 4294967295 (catB (ts.take k)))] 64) ∧ Below w.heap.size w wr) (fun i _ => ts.length - (intOf i).toNat)
  case atStart => exact ⟨0, Nat.zero_le _, rfl, hid (by simpa [catB, regN_nil] using (Blk.new w #[.int .u32 4294967295] 64)), ext_alloc (ext_refl _) _⟩
  case round =>
    obtain ⟨wo, rfl⟩ : ∃ wo : World, wo = wr := ⟨_, rfl⟩
    obtain ⟨k, hk, rfl, HB, hb⟩ := hrel
    by_cases hlt : k < ts.length
    · have d0 := later hb (HCS.out k ts[k] (by simp [hlt]))
      have hs := HSZ.out ts[k] (by simp)
      have HTK := hid (catB_take ts k hlt)
      have hr0 := regN_lt (catB (ts.take k)) (r := 4294967295) (by decide) (catB_lt _)
      have HRN : Hid (regN 4294967295 (catB (ts.take (k + 1))) = regN (regN 4294967295 (catB (ts.take k))) (byt ts[k])) := hid (by rw [HTK.out, regN_append])
      generalize regN 4294967295 (catB (ts.take k)) = r0 at *
      generalize hs' : ts[k] = s at *
      clear HTK hs'
      have HR0 := hid hr0
      clear hr0
      go_wp2_with fail
      go_loopw [17] (fun i wr => ∃ j : Nat, j ≤ s.size ∧ i = .int .i64 j ∧ Hid (Blk wr w.heap.size #[.int .u32 (regN r0 ((byt s).take j))] 64) ∧ Below w.heap.size w wr) (fun i _ => s.size - (intOf i).toNat)
      case atStart => exact ⟨0, Nat.zero_le _, rfl, hid (by simpa [regN_nil] using HB.out), hb⟩
      case round =>
        obtain ⟨w2, rfl⟩ : ∃ w2 : World, w2 = wr := ⟨_, rfl⟩
        obtain ⟨j, hj, rfl, HB2, hb2⟩ := hrel
        by_cases hlt2 : j < s.size
        · have HTK := hid (byt_take s j hlt2)
          have hr1 := regN_lt ((byt s).take j) HR0.out (fun c hc => byt_lt s c (List.mem_of_mem_take hc))
          have HRN2 : Hid (regN r0 ((byt s).take (j + 1)) = bit8 (regN r0 ((byt s).take j) ^^^ s[j].toNat)) := hid (by rw [HTK.out, regN_snoc])
          clear HTK
          generalize regN r0 ((byt s).take j) = r1 at *
          have HX := hid (xorc r1 s[j] hr1)
          have HR1 := hid hr1
          have c0 := HB2.out.cell 0 (v := .int .u32 r1) rfl
          have f0 := HB2.out.free 0
          clear hr1
          go_wp2_with fail
          go_region
          all_goals rw [HX.out]
          have HB3 : Hid (Blk (w2.setCell ⟨w.heap.size, 0, none⟩ (.int .u32 ((r1 ^^^ s[j].toNat : Nat) : Int))).drew w.heap.size #[.int .u32 ((r1 ^^^ s[j].toNat : Nat) : Int)] 64) := hid (by simpa using (HB2.out.set 0 (.int .u32 ((r1 ^^^ s[j].toNat : Nat) : Int))).drew)
          have hx : r1 ^^^ s[j].toNat < 4294967296 := xor_lt 32 HR1.out (by have := s[j].toNat_lt; omega)
          have hb3 : Below w.heap.size w (w2.setCell ⟨w.heap.size, 0, none⟩ (.int .u32 ((r1 ^^^ s[j].toNat : Nat) : Int))).drew := ext_drew (ext_set hb2 (Nat.le_refl _) _)
          generalize r1 ^^^ s[j].toNat = x at *
          generalize (w2.setCell ⟨w.heap.size, 0, none⟩ (.int .u32 (x : Int))).drew = w3 at *
          have HXL := hid hx
          clear hx HX HB2 hb2 HR1 c0 f0
          go_wp2_with fail
          go_loopw [26] (fun i wr => ∃ m : Nat, m ≤ 8 ∧ i = .int .i64 m ∧ Hid (Blk wr w.heap.size #[.int .u32 (itN m x)] 64) ∧ Below w.heap.size w wr) (fun i _ => 8 - (intOf i).toNat)
          case atStart => exact ⟨0, by omega, rfl, HB3, hb3⟩
          case round =>
            obtain ⟨m, hm, rfl, HB4, hb4⟩ := hrel
            by_cases hlt3 : m < 8
            · have HIT := hid (itN_lt m HXL.out)
              have HBL := hid HB4.out.lt
              go_wp2_with fail
              refine (regbit_any _ _ _ HIT.out HB4.out).mono ?_
              rintro e' w5 ⟨rfl, rfl⟩
              go_wp2_with fail
              go_roundw
              case rel => exact ⟨m + 1, by omega, by go_num, hid (by simpa [itN] using HB4.out.set 0 (.int .u32 (bitN (itN m x) : Nat))), ext_set hb4 (Nat.le_refl _) _⟩
              case measure => simp [intOf]; omega
            · obtain rfl : m = 8 := by omega
              rw [itN_8] at HB4
              rw [← HRN2.out] at HB4
              go_wp2_with fail
              go_roundw
              case rel => exact ⟨j + 1, by omega, by go_num, HB4, hb4⟩
              case measure => simp [intOf]; omega
        · obtain rfl : j = s.size := by omega
          have HB5 : Hid (Blk w2 w.heap.size #[.int .u32 (regN r0 (byt s))] 64) := hid (by
            have h := HB2.out
            rwa [List.take_of_length_le (by rw [byt_len]; exact Nat.le_refl _)] at h)
          rw [← HRN.out] at HB5
          go_wp2_with fail
          go_roundw
          case rel => exact ⟨k + 1, by omega, by go_num, HB5, hb2⟩
          case measure => simp [intOf]; omega
    · obtain rfl : k = ts.length := by omega
      have HB' : Hid (Blk wo w.heap.size #[.int .u32 (regN 4294967295 (catB ts))] 64) := hid (by simpa using HB.out)
      have hr1 := regN_lt (catB ts) (r := 4294967295) (by decide) (catB_lt _)
      clear HB
      have HSM : Hid (sumN (catB ts) = 4294967295 - regN 4294967295 (catB ts)) := hid rfl
      generalize regN 4294967295 (catB ts) = r1 at *
      have c0 := HB'.out.cell 0 (v := .int .u32 r1) rfl
      clear hlt hk
      go_wp2_with fail
      go_ret
      refine ⟨ret_int ?_, hb⟩
      rw [show IntKind.u32.max = ((4294967295 : Nat) : Int) from rfl, u32_xor_nat _ _ (by decide) hr1, HSM.out, compl_xor hr1]

set_option maxRecDepth 100000 in
set_option maxHeartbeats 4000000 in
theorem sum_any (s : ByteArray) (w : World) (hs : s.size ≤ 9223372036854775807) :
    Calls Try.prog 28 #[.string s] w fun e' w' => e' = .returned (.int .u32 (sumN (byt s))) ∧ Below w.heap.size w w' := by
  have H := hid (register_any [s] (w.alloc (.cells #[.string s] 9)) w.heap.size 0 1 (by simpa using hs) (by simp) (by
    intro j x hj
    match j, hj with
    | 0, hj => simp at hj; subst hj; exact (Blk.new w #[.string s] 9).cell 0 rfl))
  go_enter Try.func28, Try.ntmps28
  go_wp2_with fail
  refine H.out.mono ?_
  rintro e' w1 ⟨rfl, hb1⟩
  go_wp2_with fail
  go_ret
  exact ⟨by simp [catB], ext_trans (ext_alloc (ext_refl _) _) hb1⟩

theorem sealN_lt (r : Nat) (hr : r < 4294967296) : ∀ c ∈ sealN r, c < 256 := by
  intro c hc
  simp only [sealN, List.mem_cons, List.not_mem_nil, or_false] at hc
  omega
theorem run_seal (w : World) (r : Nat) (hr : r < 4294967296) :
    (convert 81 9 (.slice (some ⟨w.heap.size, 0, none⟩) 4 4)).run Try.prog (w.alloc (.cells #[.int .u8 ((r : Int) % 256), .int .u8 ((r : Int) / 256 % 256), .int .u8 ((r : Int) / 65536 % 256), .int .u8 ((r : Int) / 16777216)] 5)) =
      .ok (.string (bstr (sealN r))) (w.alloc (.cells #[.int .u8 ((r : Int) % 256), .int .u8 ((r : Int) / 256 % 256), .int .u8 ((r : Int) / 65536 % 256), .int .u8 ((r : Int) / 16777216)] 5)) := by
  have hb := Blk.new w #[.int .u8 ((r : Int) % 256), .int .u8 ((r : Int) / 256 % 256), .int .u8 ((r : Int) / 65536 % 256), .int .u8 ((r : Int) / 16777216)] 5
  refine run_conv_bytes _ _ 0 4 (sealN r) (sealN_lt r hr) (fun j hj => ?_)
  match j, hj with
  | 0, _ => exact hb.cell 0 (by simp [sealN])
  | 1, _ => exact hb.cell 1 (by simp [sealN])
  | 2, _ => exact hb.cell 2 (by simp [sealN])
  | 3, _ => exact hb.cell 3 (by simp [sealN])

set_option maxRecDepth 100000 in
set_option maxHeartbeats 4000000 in
theorem seal_any (r : Nat) (w : World) (hr : r < 4294967296) : Calls Try.prog 25 #[.int .u32 r] w (StrOf w (sealN r)) := by
  have h0 : (0 : Int) ≤ (r : Int) := by omega
  have h1 : (r : Int) ≤ 4294967295 := by omega
  have HR := hid hr
  have hk := run_seal w r hr
  clear hr
  go_enter Try.func25, Try.ntmps25
  go_wp2_with fail
  go_ret
  exact ⟨_, rfl, byt_bstr (sealN_lt r HR.out), ext_alloc (ext_refl _) _⟩
end Go.Proofs.Ytaklfjjkeebheaa
/-
  Walk: frame.Wrap (FrW5).
-/
namespace Go.Proofs.Ytaklfjjkeebheaa
set_option linter.unusedVariables false
set_option linter.unusedSimpArgs false
set_option linter.unusedVariables false
open Go Go.RowKit
theorem run_conv_one (w : World) (b : Nat) (x : Nat) (hx : x < 256) (t : TypeId) (h : Blk w b #[.int .u8 (x : Int)] t) :
    (convert 81 9 (.slice (some ⟨b, 0, none⟩) 1 1)).run Try.prog w = .ok (.string (bstr [x])) w :=
  run_conv_bytes w b 0 1 [x] (by simpa using hx) (fun j hj => by
    match j, hj with
    | 0, _ => exact h.cell 0 rfl)
theorem bstr_size (l : List Nat) : (bstr l).size = l.length := by simp [bstr, ByteArray.size]
theorem byt_append (a b : ByteArray) : byt (a ++ b) = byt a ++ byt b := by simp [byt, ByteArray.data_append]
theorem size_of_byt {s : ByteArray} {k n : Nat} (h : byt s = putF k n) : s.size ≤ k := by
  rw [← byt_len, h]; exact putF_len k n

theorem join3 (a b c : List UInt8) : Lib.join [a, b, c] [] = a ++ b ++ c := by
  rw [Lib.join_cons]
  show a ++ (b ++ (c ++ [])) = a ++ b ++ c
  rw [List.append_nil, List.append_assoc]
theorem len_data (s : ByteArray) : s.data.toList.length = s.size := by rw [Array.length_toList]; rfl
/-- A frame, plainly. -/
def wrapL (b : List Nat) : List Nat × Nat := if 16777216 < (putN b.length).length + b.length + 4 then ([], 40) else (putN b.length ++ b ++ sealN (sumN (putN b.length ++ b)), 0)
/-- A text came back, and a number. -/
def StrE (w : World) (l : List Nat) (n : Nat) (e : Ending) (w' : World) : Prop := ∃ s : ByteArray, e = .returned (.tuple #[.string s, .int .i64 n]) ∧ byt s = l ∧ Below w.heap.size w w'
theorem putN_len (n : Nat) : (putN n).length ≤ 10 := putF_len 10 n
theorem byt_nil : byt ⟨#[]⟩ = [] := rfl

set_option maxRecDepth 100000 in
set_option maxHeartbeats 4000000 in
theorem wrap_any (b : ByteArray) (w : World) (hb : b.size ≤ 9223372036854775807) : Calls Try.prog 10 #[.string b] w (StrE w (wrapL (byt b)).1 (wrapL (byt b)).2) := by
  have hb0 : (b.size : Int) ≤ 9223372036854775807 := by omega
  have hb1 : (0 : Int) ≤ (b.size : Int) := by omega
  go_enter Try.func10, Try.ntmps10
  go_wp2_with fail
  refine (vput_any b.size w (by omega)).mono ?_
  rintro e' w1 ⟨h, rfl, hh, hb1'⟩
  have hl := putN_len b.size
  rw [← hh, byt_len] at hl
  have HH := hid hh
  clear hh
  have hl1 : (h.size : Int) ≤ 10 := by omega
  have hl0 : (0 : Int) ≤ (h.size : Int) := by omega
  by_cases hbig : 16777216 < h.size + b.size + 4
  · have HB := hid hbig
    have ht : 16777216 - (h.size : Int) - 4 < (b.size : Int) := by omega
    have HW : Hid (wrapL (byt b) = ([], 40)) := hid (by
      unfold wrapL
      rw [if_pos (by rw [byt_len, ← HH.out, byt_len]; exact hbig)])
    clear hbig
    go_wp2_with fail
    go_ret2
    rw [HW.out]
    exact ⟨_, rfl, rfl, hb1'⟩
  · have ht : ¬ (16777216 - (h.size : Int) - 4 < (b.size : Int)) := by omega
    have HB := hid hbig
    have HW : Hid (wrapL (byt b) = (byt h ++ byt b ++ sealN (sumN (byt h ++ byt b)), 0)) := hid (by
      unfold wrapL
      rw [if_neg (by rw [byt_len, ← HH.out, byt_len]; exact hbig), byt_len, ← HH.out])
    clear hbig
    have hsz2 : h.size + b.size + 4 ≤ 16777216 := by have := HB.out; omega
    have HSZ2 := hid hsz2
    clear hsz2
    go_wp2_with fail
    have hN := Blk.new w1 #[.string h, .string b] 9
    refine (register_any [h, b] _ w1.heap.size 0 2 (by intro s hs; simp at hs; rcases hs with rfl | rfl <;> omega) (by simp) (fun j x hj => by
      match j, hj with
      | 0, hj => simp at hj; subst hj; exact hN.cell 0 rfl
      | 1, hj => simp at hj; subst hj; exact hN.cell 1 rfl)).mono ?_
    rintro e' w2 ⟨rfl, hb2⟩
    clear hN
    go_wp2_with fail
    refine (seal_any _ _ (sumN_lt _)).mono ?_
    rintro e' w3 ⟨s, rfl, hs, hb3⟩
    have HS := hid hs
    have hss : s.size = 4 := by rw [← byt_len, hs]; rfl
    have HSS := hid hss
    clear hs hss
    go_wp2_with fail
    have hN := Blk.new w3 #[.string h, .string b, .string s] 9
    refine (Try.strings_Join w3.heap.size 0 3 [h, b, s] ⟨#[]⟩ _ (fun j x hj => by
      match j, hj with
      | 0, hj => simp at hj; subst hj; exact hN.cell 0 rfl
      | 1, hj => simp at hj; subst hj; exact hN.cell 1 rfl
      | 2, hj => simp at hj; subst hj; exact hN.cell 2 rfl) hN.lt (by simp) (by simp) (by
        have h1 := HSZ2.out
        have h2 := HSS.out
        rw [show ([h, b, s].map (·.data.toList)) = [h.data.toList, b.data.toList, s.data.toList] from rfl, show (⟨#[]⟩ : ByteArray).data.toList = [] from rfl, join3, List.length_append, List.length_append, len_data, len_data, len_data]
        omega)).mono ?_
    rintro e' w4 ⟨rfl, hb4⟩
    clear hN
    go_wp2_with fail
    go_ret2
    rw [HW.out]
    refine ⟨_, rfl, ?_, by repeat (first | assumption | exact ext_refl _ | refine ext_drew ?_ | refine ext_alloc ?_ _ | refine ext_trans ?_ (by assumption))⟩
    rw [byt_mk, join3, List.map_append, List.map_append]
    have h3 := HS.out
    rw [show catB [h, b] = byt h ++ byt b by simp [catB]] at h3
    rw [← h3]
    rfl
end Go.Proofs.Ytaklfjjkeebheaa
/-
  Walk: frame.Unwrap (FrW6).
-/
namespace Go.Proofs.Ytaklfjjkeebheaa
set_option linter.unusedVariables false
set_option linter.unusedSimpArgs false
set_option linter.unusedVariables false
open Go Go.RowKit
/-- What bytes are as a frame, plainly: the body, the place, the error. -/
def unwrapL (s : List Nat) : List Nat × Nat × Nat :=
  if 16777216 < s.length then ([], 0, 40)
  else if (getN s).2.2 ≠ 0 then ([], 0, (getN s).2.2)
  else if 16777216 < (getN s).1 then ([], 0, 20)
  else if s.length < (getN s).2.1 + (getN s).1 + 4 then ([], s.length, 8)
  else if (getN s).2.1 + (getN s).1 + 4 < s.length then ([], (getN s).2.1 + (getN s).1 + 4, 10)
  else if s.drop ((getN s).2.1 + (getN s).1) ≠ sealN (sumN (s.take ((getN s).2.1 + (getN s).1))) then ([], (getN s).2.1 + (getN s).1, 9)
  else ((s.take ((getN s).2.1 + (getN s).1)).drop (getN s).2.1, 0, 0)
/-- A text came back, and two numbers. -/
def StrE3 (w : World) (l : List Nat) (n m : Nat) (e : Ending) (w' : World) : Prop := ∃ s : ByteArray, e = .returned (.tuple #[.string s, .int .i64 n, .int .i64 m]) ∧ byt s = l ∧ Below w.heap.size w w'

theorem ret_str3 {s t : ByteArray} {k2 k3 : IntKind} {c d e f : Int} (h1 : s = t) (h2 : c = d) (h3 : e = f) : Ending.returned (.tuple #[.string s, .int k2 c, .int k3 e]) = .returned (.tuple #[.string t, .int k2 d, .int k3 f]) := by rw [h1, h2, h3]
theorem cmp_byt (a b : ByteArray) : (a.toList == b.toList) = decide (byt a = byt b) := by
  rw [ByteArray.toList_eq, ByteArray.toList_eq, Bool.eq_iff_iff, beq_iff_eq, decide_eq_true_iff]
  constructor
  · intro h; unfold byt; rw [h]
  · intro h; rw [byt_inj h]
theorem byt_extract (s : ByteArray) (a b : Nat) : byt (s.extract a b) = ((byt s).drop a).take (b - a) := by
  unfold byt
  rw [Lib.extract_data, List.map_take, List.map_drop]
theorem byt_head (s : ByteArray) (b : Nat) : byt (s.extract 0 b) = (byt s).take b := by rw [byt_extract]; simp
theorem byt_tail (s : ByteArray) (a : Nat) : byt (s.extract a s.size) = (byt s).drop a := by
  rw [byt_extract, List.take_of_length_le]
  simp [byt_len]
theorem byt_mid (s : ByteArray) (a b : Nat) : byt (s.extract a b) = ((byt s).take b).drop a := by
  rw [byt_extract, List.drop_take]

set_option maxRecDepth 100000 in
set_option maxHeartbeats 4000000 in
theorem unwrap_any (s : ByteArray) (w : World) (hs : s.size ≤ 9223372036854775807) : Calls Try.prog 11 #[.string s] w (StrE3 w (unwrapL (byt s)).1 (unwrapL (byt s)).2.1 (unwrapL (byt s)).2.2) := by
  have hs0 : (0 : Int) ≤ (s.size : Int) := by omega
  by_cases hbig : 16777216 < s.size
  · have ht : (16777216 : Int) < (s.size : Int) := by omega
    have HU : Hid (unwrapL (byt s) = ([], 0, 40)) := hid (by unfold unwrapL; rw [if_pos (by rw [byt_len]; exact hbig)])
    clear hbig
    go_enter Try.func11, Try.ntmps11
    go_wp2_with fail
    go_ret3
    rw [HU.out]
    exact ⟨_, rfl, rfl, ext_refl _⟩
  have ht : decide ((16777216 : Int) < (s.size : Int)) = false := by rw [decide_eq_false_iff_not]; omega
  have HBG := hid hbig
  have HGET := hid (get_any s w hs)
  obtain ⟨n, sz, e, hg⟩ : ∃ n sz e, getN (byt s) = (n, sz, e) := ⟨_, _, _, rfl⟩
  have HG := hid hg
  have hs16 : (s.size : Int) ≤ 16777216 := by omega
  clear hbig hg
  by_cases he : e = 0
  · subst he
    obtain ⟨h1, h2, h3, h4, h5⟩ := put_get (byt_lt s) HG.out
    rw [byt_len] at h4
    have HH1 := hid h1
    clear h1
    by_cases hn : 16777216 < n
    · have ht1 : (16777216 : Int) < (n : Int) := by omega
      have HU : Hid (unwrapL (byt s) = ([], 0, 20)) := hid (by unfold unwrapL; rw [if_neg (by rw [byt_len]; exact HBG.out), HG.out]; simp [hn])
      clear hn
      go_enter Try.func11, Try.ntmps11
      go_wp2_with fail
      refine HGET.out.mono ?_
      rw [HG.out]
      rintro e' w1 ⟨rfl, rfl⟩
      go_wp2_with fail
      go_ret3
      rw [HU.out]
      exact ⟨_, rfl, rfl, ext_refl _⟩
    · have ht1 : decide ((16777216 : Int) < (n : Int)) = false := by rw [decide_eq_false_iff_not]; omega
      have hn1 : (n : Int) ≤ 16777216 := by omega
      have hsz1 : (sz : Int) ≤ 10 := by omega
      by_cases hsh : s.size < sz + n + 4
      · have ht2 : (s.size : Int) < (sz : Int) + (n : Int) + 4 := by omega
        have HU : Hid (unwrapL (byt s) = ([], s.size, 8)) := hid (by
          unfold unwrapL
          rw [if_neg (by rw [byt_len]; exact HBG.out), HG.out]
          dsimp only
          rw [if_neg (by simp), if_neg hn, if_pos (by rw [byt_len]; exact hsh), byt_len])
        clear hn hsh
        go_enter Try.func11, Try.ntmps11
        go_wp2_with fail
        refine HGET.out.mono ?_
        rw [HG.out]
        rintro e' w1 ⟨rfl, rfl⟩
        go_wp2_with fail
        go_ret3
        rw [HU.out]
        exact ⟨_, rfl, rfl, ext_refl _⟩
      by_cases hlg : sz + n + 4 < s.size
      · have ht2 : decide ((s.size : Int) < (sz : Int) + (n : Int) + 4) = false := by rw [decide_eq_false_iff_not]; omega
        have ht3 : (sz : Int) + (n : Int) + 4 < (s.size : Int) := by omega
        have HU : Hid (unwrapL (byt s) = ([], sz + n + 4, 10)) := hid (by
          unfold unwrapL
          rw [if_neg (by rw [byt_len]; exact HBG.out), HG.out]
          dsimp only
          rw [if_neg (by simp), if_neg hn, if_neg (by rw [byt_len]; exact hsh), if_pos (by rw [byt_len]; exact hlg)])
        clear hn hsh hlg
        go_enter Try.func11, Try.ntmps11
        go_wp2_with fail
        refine HGET.out.mono ?_
        rw [HG.out]
        rintro e' w1 ⟨rfl, rfl⟩
        go_wp2_with fail
        go_ret3
        rw [HU.out]
        exact ⟨_, ret_str3 rfl (by simp) rfl, rfl, ext_refl _⟩
      have hen : s.size = sz + n + 4 := by omega
      have ht2 : decide ((s.size : Int) < (sz : Int) + (n : Int) + 4) = false := by rw [decide_eq_false_iff_not]; omega
      have ht3 : decide ((sz : Int) + (n : Int) + 4 < (s.size : Int)) = false := by rw [decide_eq_false_iff_not]; omega
      have hb1 : (sz : Int) + (n : Int) ≤ (s.size : Int) := by omega
      have hb2 : sz + n ≤ s.size := by omega
      have hb0 : (0 : Int) ≤ (sz : Int) + (n : Int) := by omega
      have HEN := hid hen
      have HN := hid hn
      clear hen hsh hlg hn
      go_enter Try.func11, Try.ntmps11
      go_wp2_with fail
      refine HGET.out.mono ?_
      rw [HG.out]
      rintro e' w1 ⟨rfl, rfl⟩
      go_wp2_with fail
      go_region_law (first
        | (go_simp; go_at_call 28; refine (sum_any _ _ (by simp [ByteArray.size_extract]; omega)).mono ?_; rintro e' w2 ⟨rfl, hb2'⟩)
        | (go_simp; go_at_call 25; refine (seal_any _ _ (sumN_lt _)).mono ?_; rintro e' w3 ⟨t, rfl, hst, hb3⟩; have HST := hid hst; clear hst))
      have hto : ((sz : Int) + (n : Int)).toNat = sz + n := by omega
      rw [hto] at HST
      have HTO := hid hto
      clear hto
      have hcond : unwrapL (byt s) = if (byt s).drop (sz + n) ≠ sealN (sumN ((byt s).take (sz + n))) then ([], sz + n, 9) else (((byt s).take (sz + n)).drop sz, 0, 0) := by
        have h5 := HEN.out
        unfold unwrapL
        rw [if_neg (by rw [byt_len]; exact HBG.out), HG.out]
        dsimp only
        rw [if_neg (by simp), if_neg HN.out, if_neg (by rw [byt_len]; omega), if_neg (by rw [byt_len]; omega)]
      have HC := hid hcond
      clear hcond
      go_wp2_with fail
      all_goals rename_i ht9
      all_goals rw [HTO.out, cmp_byt, HST.out, byt_tail, byt_head] at ht9
      · go_ret3
        rw [HC.out, if_pos (by simpa using ht9)]
        exact ⟨_, ret_str3 rfl (by simp) rfl, rfl, by repeat (first | assumption | exact ext_refl _ | refine ext_drew ?_ | refine ext_alloc ?_ _ | refine ext_trans ?_ (by assumption))⟩
      · go_ret3
        rw [HC.out, if_neg (by simpa using ht9)]
        exact ⟨_, rfl, byt_mid _ _ _, by repeat (first | assumption | exact ext_refl _ | refine ext_drew ?_ | refine ext_alloc ?_ _ | refine ext_trans ?_ (by assumption))⟩
  · have ht1 : ((e : Int) != 0) = true := by rw [bne_iff_ne]; omega
    have HU : Hid (unwrapL (byt s) = ([], 0, e)) := hid (by unfold unwrapL; rw [if_neg (by rw [byt_len]; exact HBG.out), HG.out]; simp [he])
    clear he
    go_enter Try.func11, Try.ntmps11
    go_wp2_with fail
    refine HGET.out.mono ?_
    rw [HG.out]
    rintro e' w1 ⟨rfl, rfl⟩
    go_wp2_with fail
    go_ret3
    rw [HU.out]
    exact ⟨_, rfl, rfl, ext_refl _⟩
end Go.Proofs.Ytaklfjjkeebheaa
/-
  Frames, plainly (FrL1, FrL2, FrL3).
-/
namespace Go.Proofs.Ytaklfjjkeebheaa
set_option linter.unusedVariables false
set_option linter.unusedSimpArgs false
set_option linter.unusedVariables false
open Go Go.RowKit
theorem eq_bstr {s : ByteArray} {l : List Nat} (h : byt s = l) : s = bstr l := by rw [← h, bstr_byt]
theorem wrap_x (b : ByteArray) (w : World) (hb : b.size ≤ 9223372036854775807) : Calls Try.prog 10 #[.string b] w fun e w' => e = .returned (.tuple #[.string (bstr (wrapL (byt b)).1), .int .i64 (wrapL (byt b)).2]) ∧ Below w.heap.size w w' :=
  (wrap_any b w hb).mono fun _ _ ⟨s, h1, h2, h3⟩ => ⟨by rw [h1, eq_bstr h2], h3⟩
theorem unwrap_x (b : ByteArray) (w : World) (hb : b.size ≤ 9223372036854775807) : Calls Try.prog 11 #[.string b] w fun e w' => e = .returned (.tuple #[.string (bstr (unwrapL (byt b)).1), .int .i64 (unwrapL (byt b)).2.1, .int .i64 (unwrapL (byt b)).2.2]) ∧ Below w.heap.size w w' :=
  (unwrap_any b w hb).mono fun _ _ ⟨s, h1, h2, h3⟩ => ⟨by rw [h1, eq_bstr h2], h3⟩
theorem wrapL_size (b : List Nat) : (wrapL b).1.length ≤ b.length + 14 := by
  have := putN_len b.length
  unfold wrapL
  split
  · simp
  · simp [sealN]; omega
theorem byt_bstr_wrap (b : ByteArray) : ∀ c ∈ (wrapL (byt b)).1, c < 256 := by
  unfold wrapL
  split
  · simp
  · intro c hc
    rcases List.mem_append.1 hc with h | h
    · rcases List.mem_append.1 h with h | h
      · exact putF_byte 10 _ c h
      · exact byt_lt b c h
    · exact sealN_lt _ (sumN_lt _) c h
theorem putN_pos (n : Nat) : 0 < (putN n).length := by
  unfold putN putF; split <;> simp
/-- Unwrap of Wrap is the body. -/
theorem unwrap_wrap {b : List Nat} (hl : b.length + 14 ≤ 16777216) (hb : ∀ c ∈ b, c < 256) : wrapL b = (putN b.length ++ b ++ sealN (sumN (putN b.length ++ b)), 0) ∧ unwrapL (putN b.length ++ b ++ sealN (sumN (putN b.length ++ b))) = (b, 0, 0) := by
  have h1 := putN_len b.length
  refine ⟨by unfold wrapL; rw [if_neg (by omega)], ?_⟩
  have hg : getN (putN b.length ++ b ++ sealN (sumN (putN b.length ++ b))) = (b.length, (putN b.length).length, 0) := by
    rw [List.append_assoc]
    exact get_put b.length _ (by omega)
  have h4 : (sealN (sumN (putN b.length ++ b))).length = 4 := rfl
  unfold unwrapL
  rw [hg]
  dsimp only
  rw [if_neg (by simp only [List.length_append, h4]; omega), if_neg (by simp), if_neg (by omega), if_neg (by simp only [List.length_append, h4]; omega), if_neg (by simp only [List.length_append, h4]; omega)]
  have e : (putN b.length ++ b).length = (putN b.length).length + b.length := by simp
  rw [← e, List.drop_left, List.take_left, if_neg (by simp), List.drop_left]
/-- A frame without its last byte: bytes are missing. -/
theorem unwrap_cut {b : List Nat} (hl : b.length + 14 ≤ 16777216) (hb : ∀ c ∈ b, c < 256) (f : List Nat) (hf : f = putN b.length ++ b ++ sealN (sumN (putN b.length ++ b))) :
    unwrapL (f.take (f.length - 1)) = ([], f.length - 1, 8) := by
  have h1 := putN_len b.length
  have h4 : (sealN (sumN (putN b.length ++ b))).length = 4 := rfl
  have hlen : f.length = (putN b.length).length + b.length + 4 := by rw [hf]; simp only [List.length_append, h4]
  have ht : f.take (f.length - 1) = putN b.length ++ (b ++ (sealN (sumN (putN b.length ++ b))).take 3) := by
    rw [hlen, hf, List.take_append, List.take_of_length_le (by simp), List.append_assoc]
    congr 3
    simp
  have hg : getN (f.take (f.length - 1)) = (b.length, (putN b.length).length, 0) := by
    rw [ht]; exact get_put b.length _ (by omega)
  have hl2 : (f.take (f.length - 1)).length = f.length - 1 := by simp
  unfold unwrapL
  rw [hg, hl2]
  dsimp only
  rw [if_neg (by omega), if_neg (by simp), if_neg (by omega), if_pos (by omega)]
/-- A frame with a byte more: bytes behind the end. -/
theorem unwrap_long {b : List Nat} (hl : b.length + 14 ≤ 16777215) (hb : ∀ c ∈ b, c < 256) (x : Nat) (f : List Nat) (hf : f = putN b.length ++ b ++ sealN (sumN (putN b.length ++ b))) :
    unwrapL (f ++ [x]) = ([], f.length, 10) := by
  have h1 := putN_len b.length
  have h4 : (sealN (sumN (putN b.length ++ b))).length = 4 := rfl
  have hlen : f.length = (putN b.length).length + b.length + 4 := by rw [hf]; simp only [List.length_append, h4]
  have hg : getN (f ++ [x]) = (b.length, (putN b.length).length, 0) := by
    rw [hf, List.append_assoc, List.append_assoc]; exact get_put b.length _ (by omega)
  unfold unwrapL
  rw [hg]
  dsimp only
  rw [if_neg (by simp; omega), if_neg (by simp), if_neg (by omega), if_neg (by simp; omega), if_pos (by simp; omega), ← hlen]
/-- What Unwrap told, wrapped anew, are the bytes. -/
theorem wrap_unwrap {s t : List Nat} {n : Nat} (hs : ∀ c ∈ s, c < 256) (h : unwrapL s = (t, n, 0)) : wrapL t = (s, 0) ∧ n = 0 := by
  unfold unwrapL at h
  split at h
  · simp at h
  rename_i c1
  split at h
  · simp at h; omega
  rename_i c2
  split at h
  · simp at h
  rename_i c3
  split at h
  · simp at h
  rename_i c4
  split at h
  · simp at h
  rename_i c5
  split at h
  · simp at h
  rename_i c6
  obtain ⟨m, k, e, hg⟩ : ∃ m k e, getN s = (m, k, e) := ⟨_, _, _, rfl⟩
  rw [hg] at h c2 c3 c4 c5 c6
  simp only [Prod.mk.injEq, and_true, ne_eq, Classical.not_not] at h c2 c6
  dsimp only at c3 c4 c5
  subst c2
  obtain ⟨h1, h2, h3, h4, h5⟩ := put_get hs hg
  obtain ⟨ht, rfl⟩ := h
  refine ⟨?_, rfl⟩
  have hsl : s.length = k + m + 4 := by omega
  have hkl : (s.take (k + m)).take k = putN m := by rw [List.take_take, Nat.min_eq_left (by omega), h1]
  have hpl : (putN m).length = k := by rw [← h1]; simp; omega
  have hcat : putN m ++ t = s.take (k + m) := by
    rw [← ht, ← hkl, List.take_append_drop]
  have htl : t.length = m := by rw [← ht]; simp; omega
  unfold wrapL
  rw [htl, if_neg (by rw [hpl]; omega), hcat, ← c6, List.take_append_drop]
/-- Whatever is refused, is so at a place within. -/
theorem unwrap_place {s t : List Nat} {n e : Nat} (h : unwrapL s = (t, n, e)) (he : e ≠ 0) : t = [] ∧ n ≤ s.length := by
  unfold unwrapL at h
  split at h
  · simp at h; obtain ⟨rfl, rfl, rfl⟩ := h; simp
  split at h
  · simp at h; obtain ⟨rfl, rfl, -⟩ := h; simp
  split at h
  · simp at h; obtain ⟨rfl, rfl, -⟩ := h; simp
  split at h
  · simp at h; obtain ⟨rfl, rfl, -⟩ := h; simp
  split at h
  · simp at h; obtain ⟨rfl, rfl, -⟩ := h; exact ⟨rfl, by omega⟩
  split at h
  · simp at h; obtain ⟨rfl, rfl, -⟩ := h; exact ⟨rfl, by omega⟩
  · simp at h; omega
/-- A body's frame. -/
def frameL (b : List Nat) : List Nat := putN b.length ++ b ++ sealN (sumN (putN b.length ++ b))
theorem frameL_lt {b : List Nat} (hb : ∀ c ∈ b, c < 256) : ∀ c ∈ frameL b, c < 256 := by
  intro c hc
  rcases List.mem_append.1 hc with h | h
  · rcases List.mem_append.1 h with h | h
    · exact putF_byte 10 _ c h
    · exact hb c h
  · exact sealN_lt _ (sumN_lt _) c h
theorem frameL_len (b : List Nat) : (frameL b).length = (putN b.length).length + b.length + 4 := by
  unfold frameL; simp only [List.length_append]; rfl
theorem byt_frame (b : ByteArray) : byt (bstr (frameL (byt b))) = frameL (byt b) := byt_bstr (frameL_lt (byt_lt b))

theorem unwrap_sub {s t : List Nat} {n e : Nat} (h : unwrapL s = (t, n, e)) : t.length ≤ s.length ∧ ∀ c ∈ t, c ∈ s := by
  unfold unwrapL at h
  split at h
  · simp at h; obtain ⟨rfl, -, -⟩ := h; simp
  split at h
  · simp at h; obtain ⟨rfl, -, -⟩ := h; simp
  split at h
  · simp at h; obtain ⟨rfl, -, -⟩ := h; simp
  split at h
  · simp at h; obtain ⟨rfl, -, -⟩ := h; simp
  split at h
  · simp at h; obtain ⟨rfl, -, -⟩ := h; simp
  split at h
  · simp at h; obtain ⟨rfl, -, -⟩ := h; simp
  · simp only [Prod.mk.injEq] at h
    obtain ⟨rfl, -, -⟩ := h
    exact ⟨by simp; omega, fun c hc => List.mem_of_mem_take (List.mem_of_mem_drop hc)⟩

end Go.Proofs.Ytaklfjjkeebheaa
