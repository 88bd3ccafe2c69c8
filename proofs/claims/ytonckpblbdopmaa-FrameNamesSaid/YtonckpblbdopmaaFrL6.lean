/-
  FrameBent: the plain law, and the walk.
-/
import Derived.Test.YtonckpblbdopmaaFrL5
namespace Go.Proofs.Ytonckpblbdopmaa
set_option linter.unusedVariables false
open Go Go.RowKit

/-- A frame bent behind its length is refused, or it is the frame. -/
theorem frame_bent {b : List Nat} (hl : b.length ≤ 20000) (hb : ∀ c ∈ b, c < 256) (p x : Nat) (hp : (putN b.length).length ≤ p) (hne : bentL (frameL b) p (four x) ≠ frameL b) :
    unwrapL (bentL (frameL b) p (four x)) = ([], (frameL b).length - 4, 9) := by
  have h1 := putN_len b.length
  have hF := frameL_len b
  have hFb := frameL_lt hb
  obtain ⟨t, ht⟩ : ∃ t, t = bentL (frameL b) p (four x) := ⟨_, rfl⟩
  rw [← ht] at hne ⊢
  have htl : t.length = (frameL b).length := by rw [ht, bent_len]
  have htb : ∀ c ∈ t, c < 256 := by rw [ht]; exact bent_byte _ _ _ hFb (four_lt x)
  have hhead : t.take (putN b.length).length = putN b.length := by
    rw [ht, bent_keep _ _ _ _ hp]
    unfold frameL
    rw [List.append_assoc, List.take_left]
  have hg : getN t = (b.length, (putN b.length).length, 0) := by
    rw [← List.take_append_drop (putN b.length).length t, hhead]
    exact get_put b.length _ (by omega)
  unfold unwrapL
  rw [hg]
  dsimp only
  rw [if_neg (by omega), if_neg (by simp), if_neg (by omega), if_neg (by omega), if_neg (by omega), if_pos, show (frameL b).length - 4 = (putN b.length).length + b.length by omega]
  intro he
  apply hne
  obtain ⟨u, hu⟩ : ∃ u, u = t.take ((putN b.length).length + b.length) := ⟨_, rfl⟩
  rw [← hu] at he
  have hcat : t = u ++ sealN (sumN u) := by rw [← he, hu, List.take_append_drop]
  have hub : ∀ c ∈ u, c < 256 := by rw [hu]; exact fun c hc => htb c (List.mem_of_mem_take hc)
  have r1 := regN_sealed u hub
  rw [← hcat] at r1
  have r2 : regN 4294967295 (frameL b) = big8 4294967295 := by
    unfold frameL
    refine regN_sealed _ (fun c hc => ?_)
    rcases List.mem_append.1 hc with h | h
    · exact putF_byte 10 _ c h
    · exact hb c h
  rw [ht] at r1 ⊢
  exact bent_same (frameL b) p 4294967295 (four_lt x _ (by simp [four])) (four_lt x _ (by simp [four])) (four_lt x _ (by simp [four])) (four_lt x _ (by simp [four])) (show regN 4294967295 (bentL (frameL b) p [x % 256, x / 256 % 256, x / 65536 % 256, x / 16777216 % 256]) = _ by rw [r2]; exact r1)
theorem sum_bent {s : List Nat} (hs : ∀ c ∈ s, c < 256) (p x : Nat) (h : sumN (bentL s p (four x)) = sumN s) : bentL s p (four x) = s := by
  have h1 := regN_lt s (r := 4294967295) (by decide) hs
  have h2 := regN_lt (bentL s p (four x)) (r := 4294967295) (by decide) (bent_byte _ _ _ hs (four_lt x))
  have h3 : regN 4294967295 (bentL s p (four x)) = regN 4294967295 s := by unfold sumN at h; omega
  exact bent_same s p 4294967295 (four_lt x _ (by simp [four])) (four_lt x _ (by simp [four])) (four_lt x _ (by simp [four])) (four_lt x _ (by simp [four])) h3

theorem place_is (A h n : Nat) (h1 : h < n) (h2 : n ≤ 1000000) : ∃ p : Nat, wrap64 ((h : Int) + wrap64 ((A : Int) % ((n : Int) - (h : Int)))) = (p : Int) ∧ h ≤ p ∧ p < n := by
  have r0 := Int.emod_nonneg (A : Int) (b := (n : Int) - (h : Int)) (by omega)
  have r1 := Int.emod_lt_of_pos (A : Int) (b := (n : Int) - (h : Int)) (by omega)
  generalize (A : Int) % ((n : Int) - (h : Int)) = r at *
  refine ⟨h + r.toNat, ?_, by omega, by omega⟩
  unfold wrap64
  omega
theorem place_in (A n : Nat) (h1 : 0 < n) (h2 : n ≤ 1000000) : ∃ p : Nat, wrap64 ((A : Int) % (n : Int)) = (p : Int) ∧ p < n := by
  have r0 := Int.emod_nonneg (A : Int) (b := (n : Int)) (by omega)
  have r1 := Int.emod_lt_of_pos (A : Int) (b := (n : Int)) (by omega)
  generalize (A : Int) % (n : Int) = r at *
  refine ⟨r.toNat, ?_, by omega⟩
  unfold wrap64
  omega

set_option maxRecDepth 100000 in
set_option maxHeartbeats 8000000 in
theorem frameBent_walk (b : ByteArray) (at0 x : Int) (w : World) (hb0 : b.size ≤ 9223372036854775807) (hx : 0 ≤ x ∧ x ≤ 4294967295) :
    Calls Try.prog 7 #[.string b, .int .i64 at0, .int .u32 x] w fun e w' => e = .returned (.bool true) ∧ Below w.heap.size w w' := by
  by_cases h1 : 20000 < b.size
  · have g1 : (20000 : Int) < (b.size : Int) := by omega
    go_enter Try.func7, Try.ntmps7
    go_wp2_with fail
    refine (works_any _).mono ?_
    rintro e' w1 ⟨rfl, hb1⟩
    go_wp2_with fail
    refine (works_any _).mono ?_
    rintro e' w2 ⟨rfl, hb2⟩
    go_wp2_with fail
    go_ret
    exact ⟨rfl, by repeat (first | assumption | exact ext_refl _ | refine ext_drew ?_ | refine ext_alloc ?_ _ | refine ext_trans ?_ (by assumption))⟩
  have g1 : decide ((20000 : Int) < (b.size : Int)) = false := by rw [decide_eq_false_iff_not]; omega
  have hb2 : b.size ≤ 20000 := by omega
  have HWF := hid (fun w => wrap_fine b w hb2)
  obtain ⟨hx0, hx1⟩ := hx
  obtain ⟨X, rfl⟩ := Int.eq_ofNat_of_zero_le hx0
  obtain ⟨A, hA⟩ : ∃ A : Nat, IntKind.u64.wrap at0 = (A : Int) := ⟨(IntKind.u64.wrap at0).toNat, by rw [IntKind.wrap_u64]; omega⟩
  have hab := byt_frame b
  have hal : (bstr (frameL (byt b))).size = (putN b.size).length + b.size + 4 := by rw [bstr_size, frameL_len, byt_len]
  have hl10 := putN_len b.size
  generalize hhh : (putN b.size).length = h at *
  generalize bstr (frameL (byt b)) = a at *
  have e1 : (a.size : Int) - (b.size : Int) - 4 = (h : Int) := by omega
  have HF := hid (And.intro hab (And.intro hal (And.intro hl10 (And.intro hb2 hhh))))
  clear hab hal h1 hhh
  go_enter Try.func7, Try.ntmps7
  go_wp2_with fail
  refine (works_any _).mono ?_
  rintro e' w1 ⟨rfl, hb1⟩
  go_wp2_with fail
  refine (HWF.out _).mono ?_
  rintro e' w2 ⟨rfl, hb2'⟩
  go_wp2_with fail
  obtain ⟨p, hp, hp1, hp2⟩ := place_is A h a.size (by have := HF.out; omega) (by have := HF.out; omega)
  rw [hp]
  have HP := hid (And.intro hp1 hp2)
  clear hp hp1 hp2 e1
  have hE2 := ext_trans hb1 hb2'
  clear hb1 hb2'
  refine (bent_any a p X _ (by have := HF.out; omega) (by have := HP.out; have := HF.out; omega) (by omega)).mono ?_
  rintro e' w3 ⟨rfl, hb3⟩
  have hE3 := ext_trans hE2 hb3
  clear hE2 hb3
  obtain ⟨t, ht⟩ : ∃ t, t = bstr (bentL (byt a) p (four X)) := ⟨_, rfl⟩
  rw [← ht]
  have hbt : byt t = bentL (byt a) p (four X) := by rw [ht]; exact byt_bstr (bent_byte _ _ _ (byt_lt a) (four_lt X))
  have hts : t.size = a.size := by rw [← byt_len, hbt, bent_len, byt_len]
  have HT := hid (And.intro hbt hts)
  clear ht hbt hts
  have hcase : ((!t.toList == a.toList) = false) ∨ ((!t.toList == a.toList) = true ∧ Hid (unwrapL (byt t) = ([], a.size - 4, 9))) := by
    rw [cmp_byt]
    by_cases h : byt t = byt a
    · left; simp [h]
    · right
      refine ⟨by simp [h], hid ?_⟩
      obtain ⟨q1, q2, q3, q4, q5⟩ := HF.out
      rw [HT.out.1] at h ⊢
      rw [q1] at h ⊢
      rw [frame_bent (by rw [byt_len]; exact q4) (byt_lt b) p X (by rw [byt_len, q5]; exact HP.out.1) h, frameL_len, byt_len, q5, q2]
  have e4 : wrap64 ((a.size : Int) - 4) = ((a.size - 4 : Nat) : Int) := by have := HF.out; unfold wrap64; omega
  have E4 := hid e4
  clear e4
  rcases hcase with hcm | ⟨hcm, HNO⟩
  · by_cases hz : b.size = 0
    · have ht0 : ((b.size : Int) == 0) = true := by rw [beq_iff_eq]; omega
      clear hz
      go_wp2_with fail
      go_ret
      exact ⟨rfl, hE3⟩
    · have ht0 : ((b.size : Int) == 0) = false := by rw [beq_eq_false_iff_ne]; omega
      have hbp : (1 : Int) ≤ (b.size : Int) := by omega
      have hbp2 : (0 : Int) < (b.size : Int) := by omega
      obtain ⟨p2, hp2, hp3⟩ := place_in A b.size (by omega) (by have := HF.out; omega)
      have HP2 := hid hp2
      have HP3 := hid hp3
      clear hz hp2 hp3
      go_wp2_with fail
      rw [HP2.out]
      refine (bent_any b p2 X _ (by have := HF.out; omega) (by have := HP3.out; have := HF.out; omega) (by omega)).mono ?_
      rintro e' w4 ⟨rfl, hb4⟩
      have hbu : byt (bstr (bentL (byt b) p2 (four X))) = bentL (byt b) p2 (four X) := byt_bstr (bent_byte _ _ _ (byt_lt b) (four_lt X))
      have hus : (bstr (bentL (byt b) p2 (four X))).size = b.size := by rw [← byt_len, hbu, bent_len, byt_len]
      have HU := hid hbu
      have HUS := hid hus
      clear hbu hus
      generalize bstr (bentL (byt b) p2 (four X)) = u at *
      go_wp2_with fail
      refine (sum_any u _ (by have := HUS.out; omega)).mono ?_
      rintro e' w5 ⟨rfl, hb5⟩
      go_wp2_with fail
      refine (sum_any b _ hb0).mono ?_
      rintro e' w6 ⟨rfl, hb6⟩
      go_wp2_with fail
      go_ret
      refine ⟨ret_bool ?_, ext_trans (ext_trans (ext_trans hE3 hb4) hb5) hb6⟩
      clear hb4 hb5 hb6 hE3
      rw [cmp_byt]
      by_cases hq : byt u = byt b
      · rw [hq, decide_eq_true rfl, beq_self_eq_true]; rfl
      · have hs : ¬ sumN (byt u) = sumN (byt b) := by
          rw [HU.out] at hq ⊢
          exact fun h => hq (sum_bent (byt_lt b) p2 X h)
        have hs2 : ¬ ((sumN (byt u) : Int) = (sumN (byt b) : Int)) := by omega
        rw [decide_eq_false hq, beq_eq_false_iff_ne.2 hs2]; rfl
  · by_cases hz : b.size = 0
    · have ht0 : ((b.size : Int) == 0) = true := by rw [beq_iff_eq]; omega
      clear hz
      go_wp2_with fail
      rw [E4.out]
      refine (no_any t (a.size - 4) 9 _ (by have := HT.out.2; have := HF.out; omega) HNO.out).mono ?_
      rintro e' wn ⟨rfl, hbn⟩
      have hE3 := ext_trans hE3 hbn
      clear hbn
      go_wp2_with fail
      go_ret
      exact ⟨rfl, hE3⟩
    · have ht0 : ((b.size : Int) == 0) = false := by rw [beq_eq_false_iff_ne]; omega
      have hbp : (1 : Int) ≤ (b.size : Int) := by omega
      have hbp2 : (0 : Int) < (b.size : Int) := by omega
      obtain ⟨p2, hp2, hp3⟩ := place_in A b.size (by omega) (by have := HF.out; omega)
      have HP2 := hid hp2
      have HP3 := hid hp3
      clear hz hp2 hp3
      go_wp2_with fail
      rw [E4.out]
      refine (no_any t (a.size - 4) 9 _ (by have := HT.out.2; have := HF.out; omega) HNO.out).mono ?_
      rintro e' wn ⟨rfl, hbn⟩
      have hE3 := ext_trans hE3 hbn
      clear hbn
      go_wp2_with fail
      rw [HP2.out]
      refine (bent_any b p2 X _ (by have := HF.out; omega) (by have := HP3.out; have := HF.out; omega) (by omega)).mono ?_
      rintro e' w4 ⟨rfl, hb4⟩
      have hbu : byt (bstr (bentL (byt b) p2 (four X))) = bentL (byt b) p2 (four X) := byt_bstr (bent_byte _ _ _ (byt_lt b) (four_lt X))
      have hus : (bstr (bentL (byt b) p2 (four X))).size = b.size := by rw [← byt_len, hbu, bent_len, byt_len]
      have HU := hid hbu
      have HUS := hid hus
      clear hbu hus
      generalize bstr (bentL (byt b) p2 (four X)) = u at *
      go_wp2_with fail
      refine (sum_any u _ (by have := HUS.out; omega)).mono ?_
      rintro e' w5 ⟨rfl, hb5⟩
      go_wp2_with fail
      refine (sum_any b _ hb0).mono ?_
      rintro e' w6 ⟨rfl, hb6⟩
      go_wp2_with fail
      go_ret
      refine ⟨ret_bool ?_, ext_trans (ext_trans (ext_trans hE3 hb4) hb5) hb6⟩
      clear hb4 hb5 hb6 hE3
      rw [cmp_byt]
      by_cases hq : byt u = byt b
      · rw [hq, decide_eq_true rfl, beq_self_eq_true]; rfl
      · have hs : ¬ sumN (byt u) = sumN (byt b) := by
          rw [HU.out] at hq ⊢
          exact fun h => hq (sum_bent (byt_lt b) p2 X h)
        have hs2 : ¬ ((sumN (byt u) : Int) = (sumN (byt b) : Int)) := by omega
        rw [decide_eq_false hq, beq_eq_false_iff_ne.2 hs2]; rfl
end Go.Proofs.Ytonckpblbdopmaa
