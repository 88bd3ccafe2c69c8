/-
  Walks: frames taken apart, both.
-/
import Derived.Test.YtonckpblbdopmaaFrW5
import Derived.Lib.Strings
namespace Go.Proofs.Ytonckpblbdopmaa
set_option linter.unusedVariables false
open Go Go.RowKit

/-- What bytes are as a frame, plainly: the body, the place, the error. -/
def unwrapL (s : List Nat) : List Nat × Nat × Nat :=
  if 16777216 < s.length then ([], 0, 40)
  else if (getN s).2.2 ≠ 0 then ([], 0, (getN s).2.2)
  else if 16777216 < (getN s).1 then ([], 0, 20)
  else if s.length < (getN s).2.1 + (getN s).1 + 4 then ([], s.length, 8)
  else if (getN s).2.1 + (getN s).1 + 4 < s.length then ([], (getN s).2.1 + (getN s).1 + 4, 10)
  else if s.drop ((getN s).2.1 + (getN s).1) ≠ sealN (sumN (s.take ((getN s).2.1 + (getN s).1))) then ([], (getN s).2.1 + (getN s).1, 9)
  else ((s.take ((getN s).2.1 + (getN s).1)).drop (getN s).2.1, 0, 0)
/-- A text came back, and two numbers. -/
def StrE3 (w : World) (l : List Nat) (n m : Nat) (e : Ending) (w' : World) : Prop := ∃ s : ByteArray, e = .returned (.tuple #[.string s, .int .i64 n, .int .i64 m]) ∧ byt s = l ∧ Below w.heap.size w w'

theorem ret_str3 {s t : ByteArray} {k2 k3 : IntKind} {c d e f : Int} (h1 : s = t) (h2 : c = d) (h3 : e = f) : Ending.returned (.tuple #[.string s, .int k2 c, .int k3 e]) = .returned (.tuple #[.string t, .int k2 d, .int k3 f]) := by rw [h1, h2, h3]
theorem cmp_byt (a b : ByteArray) : (a.toList == b.toList) = decide (byt a = byt b) := by
  rw [ByteArray.toList_eq, ByteArray.toList_eq, Bool.eq_iff_iff, beq_iff_eq, decide_eq_true_iff]
  constructor
  · intro h; unfold byt; rw [h]
  · intro h; rw [byt_inj h]
theorem byt_extract (s : ByteArray) (a b : Nat) : byt (s.extract a b) = ((byt s).drop a).take (b - a) := by
  unfold byt
  rw [Lib.extract_data, List.map_take, List.map_drop]
theorem byt_head (s : ByteArray) (b : Nat) : byt (s.extract 0 b) = (byt s).take b := by rw [byt_extract]; simp
theorem byt_tail (s : ByteArray) (a : Nat) : byt (s.extract a s.size) = (byt s).drop a := by
  rw [byt_extract, List.take_of_length_le]
  simp [byt_len]
theorem byt_mid (s : ByteArray) (a b : Nat) : byt (s.extract a b) = ((byt s).take b).drop a := by
  rw [byt_extract, List.drop_take]

set_option maxRecDepth 100000 in
set_option maxHeartbeats 4000000 in
theorem unwrap_any (s : ByteArray) (w : World) (hs : s.size ≤ 9223372036854775807) : Calls Try.prog 25 #[.string s] w (StrE3 w (unwrapL (byt s)).1 (unwrapL (byt s)).2.1 (unwrapL (byt s)).2.2) := by
  have hs0 : (0 : Int) ≤ (s.size : Int) := by omega
  by_cases hbig : 16777216 < s.size
  · have ht : (16777216 : Int) < (s.size : Int) := by omega
    have HU : Hid (unwrapL (byt s) = ([], 0, 40)) := hid (by unfold unwrapL; rw [if_pos (by rw [byt_len]; exact hbig)])
    clear hbig
    go_enter Try.func25, Try.ntmps25
    go_wp2_with fail
    go_ret3
    rw [HU.out]
    exact ⟨_, rfl, rfl, ext_refl _⟩
  have ht : decide ((16777216 : Int) < (s.size : Int)) = false := by rw [decide_eq_false_iff_not]; omega
  have HBG := hid hbig
  have HGET := hid (get_any s w hs)
  obtain ⟨n, sz, e, hg⟩ : ∃ n sz e, getN (byt s) = (n, sz, e) := ⟨_, _, _, rfl⟩
  have HG := hid hg
  have hs16 : (s.size : Int) ≤ 16777216 := by omega
  clear hbig hg
  by_cases he : e = 0
  · subst he
    obtain ⟨h1, h2, h3, h4, h5⟩ := put_get (byt_lt s) HG.out
    rw [byt_len] at h4
    have HH1 := hid h1
    clear h1
    by_cases hn : 16777216 < n
    · have ht1 : (16777216 : Int) < (n : Int) := by omega
      have HU : Hid (unwrapL (byt s) = ([], 0, 20)) := hid (by unfold unwrapL; rw [if_neg (by rw [byt_len]; exact HBG.out), HG.out]; simp [hn])
      clear hn
      go_enter Try.func25, Try.ntmps25
      go_wp2_with fail
      refine HGET.out.mono ?_
      rw [HG.out]
      rintro e' w1 ⟨rfl, rfl⟩
      go_wp2_with fail
      go_ret3
      rw [HU.out]
      exact ⟨_, rfl, rfl, ext_refl _⟩
    · have ht1 : decide ((16777216 : Int) < (n : Int)) = false := by rw [decide_eq_false_iff_not]; omega
      have hn1 : (n : Int) ≤ 16777216 := by omega
      have hsz1 : (sz : Int) ≤ 10 := by omega
      by_cases hsh : s.size < sz + n + 4
      · have ht2 : (s.size : Int) < (sz : Int) + (n : Int) + 4 := by omega
        have HU : Hid (unwrapL (byt s) = ([], s.size, 8)) := hid (by
          unfold unwrapL
          rw [if_neg (by rw [byt_len]; exact HBG.out), HG.out]
          dsimp only
          rw [if_neg (by simp), if_neg hn, if_pos (by rw [byt_len]; exact hsh), byt_len])
        clear hn hsh
        go_enter Try.func25, Try.ntmps25
        go_wp2_with fail
        refine HGET.out.mono ?_
        rw [HG.out]
        rintro e' w1 ⟨rfl, rfl⟩
        go_wp2_with fail
        go_ret3
        rw [HU.out]
        exact ⟨_, rfl, rfl, ext_refl _⟩
      by_cases hlg : sz + n + 4 < s.size
      · have ht2 : decide ((s.size : Int) < (sz : Int) + (n : Int) + 4) = false := by rw [decide_eq_false_iff_not]; omega
        have ht3 : (sz : Int) + (n : Int) + 4 < (s.size : Int) := by omega
        have HU : Hid (unwrapL (byt s) = ([], sz + n + 4, 10)) := hid (by
          unfold unwrapL
          rw [if_neg (by rw [byt_len]; exact HBG.out), HG.out]
          dsimp only
          rw [if_neg (by simp), if_neg hn, if_neg (by rw [byt_len]; exact hsh), if_pos (by rw [byt_len]; exact hlg)])
        clear hn hsh hlg
        go_enter Try.func25, Try.ntmps25
        go_wp2_with fail
        refine HGET.out.mono ?_
        rw [HG.out]
        rintro e' w1 ⟨rfl, rfl⟩
        go_wp2_with fail
        go_ret3
        rw [HU.out]
        exact ⟨_, ret_str3 rfl (by simp) rfl, rfl, ext_refl _⟩
      have hen : s.size = sz + n + 4 := by omega
      have ht2 : decide ((s.size : Int) < (sz : Int) + (n : Int) + 4) = false := by rw [decide_eq_false_iff_not]; omega
      have ht3 : decide ((sz : Int) + (n : Int) + 4 < (s.size : Int)) = false := by rw [decide_eq_false_iff_not]; omega
      have hb1 : (sz : Int) + (n : Int) ≤ (s.size : Int) := by omega
      have hb2 : sz + n ≤ s.size := by omega
      have hb0 : (0 : Int) ≤ (sz : Int) + (n : Int) := by omega
      have HEN := hid hen
      have HN := hid hn
      clear hen hsh hlg hn
      go_enter Try.func25, Try.ntmps25
      go_wp2_with fail
      refine HGET.out.mono ?_
      rw [HG.out]
      rintro e' w1 ⟨rfl, rfl⟩
      go_wp2_with fail
      go_region_law (first
        | (go_simp; go_at_call 19; refine (sum_any _ _ (by simp [ByteArray.size_extract]; omega)).mono ?_; rintro e' w2 ⟨rfl, hb2'⟩)
        | (go_simp; go_at_call 65; refine (seal_any _ _ (sumN_lt _)).mono ?_; rintro e' w3 ⟨t, rfl, hst, hb3⟩; have HST := hid hst; clear hst))
      have hto : ((sz : Int) + (n : Int)).toNat = sz + n := by omega
      rw [hto] at HST
      have HTO := hid hto
      clear hto
      have hcond : unwrapL (byt s) = if (byt s).drop (sz + n) ≠ sealN (sumN ((byt s).take (sz + n))) then ([], sz + n, 9) else (((byt s).take (sz + n)).drop sz, 0, 0) := by
        have h5 := HEN.out
        unfold unwrapL
        rw [if_neg (by rw [byt_len]; exact HBG.out), HG.out]
        dsimp only
        rw [if_neg (by simp), if_neg HN.out, if_neg (by rw [byt_len]; omega), if_neg (by rw [byt_len]; omega)]
      have HC := hid hcond
      clear hcond
      go_wp2_with fail
      all_goals rename_i ht9
      all_goals rw [HTO.out, cmp_byt, HST.out, byt_tail, byt_head] at ht9
      · go_ret3
        rw [HC.out, if_pos (by simpa using ht9)]
        exact ⟨_, ret_str3 rfl (by simp) rfl, rfl, by repeat (first | assumption | exact ext_refl _ | refine ext_drew ?_ | refine ext_alloc ?_ _ | refine ext_trans ?_ (by assumption))⟩
      · go_ret3
        rw [HC.out, if_neg (by simpa using ht9)]
        exact ⟨_, rfl, byt_mid _ _ _, by repeat (first | assumption | exact ext_refl _ | refine ext_drew ?_ | refine ext_alloc ?_ _ | refine ext_trans ?_ (by assumption))⟩
  · have ht1 : ((e : Int) != 0) = true := by rw [bne_iff_ne]; omega
    have HU : Hid (unwrapL (byt s) = ([], 0, e)) := hid (by unfold unwrapL; rw [if_neg (by rw [byt_len]; exact HBG.out), HG.out]; simp [he])
    clear he
    go_enter Try.func25, Try.ntmps25
    go_wp2_with fail
    refine HGET.out.mono ?_
    rw [HG.out]
    rintro e' w1 ⟨rfl, rfl⟩
    go_wp2_with fail
    go_ret3
    rw [HU.out]
    exact ⟨_, rfl, rfl, ext_refl _⟩
set_option maxRecDepth 100000 in
set_option maxHeartbeats 4000000 in
theorem runwrap_any (s : ByteArray) (w : World) (hs : s.size ≤ 9223372036854775807) : Calls Try.prog 26 #[.string s] w (StrE3 w (unwrapL (byt s)).1 (unwrapL (byt s)).2.1 (unwrapL (byt s)).2.2) := by
  have hs0 : (0 : Int) ≤ (s.size : Int) := by omega
  by_cases hbig : 16777216 < s.size
  · have ht : (16777216 : Int) < (s.size : Int) := by omega
    have HU : Hid (unwrapL (byt s) = ([], 0, 40)) := hid (by unfold unwrapL; rw [if_pos (by rw [byt_len]; exact hbig)])
    clear hbig
    go_enter Try.func26, Try.ntmps26
    go_wp2_with fail
    go_ret3
    rw [HU.out]
    exact ⟨_, rfl, rfl, ext_refl _⟩
  have ht : decide ((16777216 : Int) < (s.size : Int)) = false := by rw [decide_eq_false_iff_not]; omega
  have HBG := hid hbig
  have HGET := hid (rget_any s w hs)
  obtain ⟨n, sz, e, hg⟩ : ∃ n sz e, getN (byt s) = (n, sz, e) := ⟨_, _, _, rfl⟩
  have HG := hid hg
  have hs16 : (s.size : Int) ≤ 16777216 := by omega
  clear hbig hg
  by_cases he : e = 0
  · subst he
    obtain ⟨h1, h2, h3, h4, h5⟩ := put_get (byt_lt s) HG.out
    rw [byt_len] at h4
    have HH1 := hid h1
    clear h1
    by_cases hn : 16777216 < n
    · have ht1 : (16777216 : Int) < (n : Int) := by omega
      have HU : Hid (unwrapL (byt s) = ([], 0, 20)) := hid (by unfold unwrapL; rw [if_neg (by rw [byt_len]; exact HBG.out), HG.out]; simp [hn])
      clear hn
      go_enter Try.func26, Try.ntmps26
      go_wp2_with fail
      refine HGET.out.mono ?_
      rw [HG.out]
      rintro e' w1 ⟨rfl, rfl⟩
      go_wp2_with fail
      go_ret3
      rw [HU.out]
      exact ⟨_, rfl, rfl, ext_refl _⟩
    · have ht1 : decide ((16777216 : Int) < (n : Int)) = false := by rw [decide_eq_false_iff_not]; omega
      have hn1 : (n : Int) ≤ 16777216 := by omega
      have hsz1 : (sz : Int) ≤ 10 := by omega
      by_cases hsh : s.size < sz + n + 4
      · have ht2 : (s.size : Int) < (sz : Int) + (n : Int) + 4 := by omega
        have HU : Hid (unwrapL (byt s) = ([], s.size, 8)) := hid (by
          unfold unwrapL
          rw [if_neg (by rw [byt_len]; exact HBG.out), HG.out]
          dsimp only
          rw [if_neg (by simp), if_neg hn, if_pos (by rw [byt_len]; exact hsh), byt_len])
        clear hn hsh
        go_enter Try.func26, Try.ntmps26
        go_wp2_with fail
        refine HGET.out.mono ?_
        rw [HG.out]
        rintro e' w1 ⟨rfl, rfl⟩
        go_wp2_with fail
        go_ret3
        rw [HU.out]
        exact ⟨_, rfl, rfl, ext_refl _⟩
      by_cases hlg : sz + n + 4 < s.size
      · have ht2 : decide ((s.size : Int) < (sz : Int) + (n : Int) + 4) = false := by rw [decide_eq_false_iff_not]; omega
        have ht3 : (sz : Int) + (n : Int) + 4 < (s.size : Int) := by omega
        have HU : Hid (unwrapL (byt s) = ([], sz + n + 4, 10)) := hid (by
          unfold unwrapL
          rw [if_neg (by rw [byt_len]; exact HBG.out), HG.out]
          dsimp only
          rw [if_neg (by simp), if_neg hn, if_neg (by rw [byt_len]; exact hsh), if_pos (by rw [byt_len]; exact hlg)])
        clear hn hsh hlg
        go_enter Try.func26, Try.ntmps26
        go_wp2_with fail
        refine HGET.out.mono ?_
        rw [HG.out]
        rintro e' w1 ⟨rfl, rfl⟩
        go_wp2_with fail
        go_ret3
        rw [HU.out]
        exact ⟨_, ret_str3 rfl (by simp) rfl, rfl, ext_refl _⟩
      have hen : s.size = sz + n + 4 := by omega
      have ht2 : decide ((s.size : Int) < (sz : Int) + (n : Int) + 4) = false := by rw [decide_eq_false_iff_not]; omega
      have ht3 : decide ((sz : Int) + (n : Int) + 4 < (s.size : Int)) = false := by rw [decide_eq_false_iff_not]; omega
      have hb1 : (sz : Int) + (n : Int) ≤ (s.size : Int) := by omega
      have hb2 : sz + n ≤ s.size := by omega
      have hb0 : (0 : Int) ≤ (sz : Int) + (n : Int) := by omega
      have HEN := hid hen
      have HN := hid hn
      clear hen hsh hlg hn
      go_enter Try.func26, Try.ntmps26
      go_wp2_with fail
      refine HGET.out.mono ?_
      rw [HG.out]
      rintro e' w1 ⟨rfl, rfl⟩
      go_wp2_with fail
      go_region_law (first
        | (go_simp; go_at_call 24; refine (rsum_any _ _ (by simp [ByteArray.size_extract]; omega)).mono ?_; rintro e' w2 ⟨rfl, rfl⟩)
        | (go_simp; go_at_call 67; refine (rseal_any _ _ (sumN_lt _)).mono ?_; rintro e' w3 ⟨t, rfl, hst, hb3⟩; have HST := hid hst; clear hst))
      have hto : ((sz : Int) + (n : Int)).toNat = sz + n := by omega
      rw [hto] at HST
      have HTO := hid hto
      clear hto
      have hcond : unwrapL (byt s) = if (byt s).drop (sz + n) ≠ sealN (sumN ((byt s).take (sz + n))) then ([], sz + n, 9) else (((byt s).take (sz + n)).drop sz, 0, 0) := by
        have h5 := HEN.out
        unfold unwrapL
        rw [if_neg (by rw [byt_len]; exact HBG.out), HG.out]
        dsimp only
        rw [if_neg (by simp), if_neg HN.out, if_neg (by rw [byt_len]; omega), if_neg (by rw [byt_len]; omega)]
      have HC := hid hcond
      clear hcond
      go_wp2_with fail
      all_goals rename_i ht9
      all_goals rw [HTO.out, cmp_byt, HST.out, byt_tail, byt_head] at ht9
      · go_ret3
        rw [HC.out, if_pos (by intro h; rw [h] at ht9; simp at ht9)]
        exact ⟨_, ret_str3 rfl (by simp) rfl, rfl, by repeat (first | assumption | exact ext_refl _ | refine ext_drew ?_ | refine ext_alloc ?_ _ | refine ext_trans ?_ (by assumption))⟩
      · go_ret3
        rw [HC.out, if_neg (by have h9 := of_decide_eq_true (by simpa using ht9 : decide _ = true); exact fun hne => hne h9.symm)]
        exact ⟨_, rfl, byt_mid _ _ _, by repeat (first | assumption | exact ext_refl _ | refine ext_drew ?_ | refine ext_alloc ?_ _ | refine ext_trans ?_ (by assumption))⟩
  · have ht1 : ((e : Int) != 0) = true := by rw [bne_iff_ne]; omega
    have HU : Hid (unwrapL (byt s) = ([], 0, e)) := hid (by unfold unwrapL; rw [if_neg (by rw [byt_len]; exact HBG.out), HG.out]; simp [he])
    clear he
    go_enter Try.func26, Try.ntmps26
    go_wp2_with fail
    refine HGET.out.mono ?_
    rw [HG.out]
    rintro e' w1 ⟨rfl, rfl⟩
    go_wp2_with fail
    go_ret3
    rw [HU.out]
    exact ⟨_, rfl, rfl, ext_refl _⟩
end Go.Proofs.Ytonckpblbdopmaa
