/-
  Walks: back, no; FrameBack.
-/
import Derived.Test.YtonckpblbdopmaaFrL2
namespace Go.Proofs.Ytonckpblbdopmaa
set_option linter.unusedVariables false
open Go Go.RowKit

/-- A body's frame. -/
def frameL (b : List Nat) : List Nat := putN b.length ++ b ++ sealN (sumN (putN b.length ++ b))
theorem frameL_lt {b : List Nat} (hb : ∀ c ∈ b, c < 256) : ∀ c ∈ frameL b, c < 256 := by
  intro c hc
  rcases List.mem_append.1 hc with h | h
  · rcases List.mem_append.1 h with h | h
    · exact putF_byte 10 _ c h
    · exact hb c h
  · exact sealN_lt _ (sumN_lt _) c h
theorem frameL_len (b : List Nat) : (frameL b).length = (putN b.length).length + b.length + 4 := by
  unfold frameL; simp only [List.length_append]; rfl
theorem wrap_fine (b : ByteArray) (w : World) (hb : b.size ≤ 20000) : Calls Try.prog 20 #[.string b] w fun e w' => e = .returned (.tuple #[.string (bstr (frameL (byt b))), .int .i64 0]) ∧ Below w.heap.size w w' := by
  have h := wrap_x b w (by omega)
  rw [(unwrap_wrap (b := byt b) (by rw [byt_len]; omega) (byt_lt b)).1] at h
  exact h
theorem byt_frame (b : ByteArray) : byt (bstr (frameL (byt b))) = frameL (byt b) := byt_bstr (frameL_lt (byt_lt b))

set_option maxRecDepth 100000 in
set_option maxHeartbeats 4000000 in
theorem back_any (b : ByteArray) (w : World) (hb : b.size ≤ 20000) : Calls Try.prog 21 #[.string b] w fun e w' => e = .returned (.bool true) ∧ Below w.heap.size w w' := by
  have hF : (bstr (frameL (byt b))).size ≤ 9223372036854775807 := by
    rw [bstr_size, frameL_len, byt_len]; have := putN_len b.size; omega
  have HF := hid hF
  have HU : Hid (unwrapL (byt (bstr (frameL (byt b)))) = (byt b, 0, 0)) := hid (by
    rw [byt_frame]; exact (unwrap_wrap (b := byt b) (by rw [byt_len]; omega) (byt_lt b)).2)
  clear hF
  go_enter Try.func21, Try.ntmps21
  go_wp2_with fail
  refine (wrap_fine b _ hb).mono ?_
  rintro e' w1 ⟨rfl, hb1⟩
  go_wp2_with fail
  refine (unwrap_x (bstr (frameL (byt b))) _ HF.out).mono ?_
  rw [HU.out, bstr_byt]
  rintro e' w2 ⟨rfl, hb2⟩
  go_wp2_with fail
  go_ret
  exact ⟨rfl, by repeat (first | assumption | exact ext_refl _ | refine ext_drew ?_ | refine ext_alloc ?_ _ | refine ext_trans ?_ (by assumption))⟩

set_option maxRecDepth 100000 in
set_option maxHeartbeats 4000000 in
theorem no_any (s : ByteArray) (n e : Nat) (w : World) (hs : s.size ≤ 9223372036854775807) (hU : unwrapL (byt s) = ([], n, e)) : Calls Try.prog 22 #[.string s, .int .i64 n, .int .i64 e] w fun e' w' => e' = .returned (.bool true) ∧ Below w.heap.size w w' := by
  have HU := hid hU
  clear hU
  go_enter Try.func22, Try.ntmps22
  go_wp2_with fail
  refine (unwrap_x s _ hs).mono ?_
  rw [HU.out]
  rw [show bstr ([], n, e).1 = ⟨#[]⟩ from rfl]
  rintro e' w2 ⟨rfl, hb2⟩
  go_wp2_with fail
  go_ret
  exact ⟨rfl, by repeat (first | assumption | exact ext_refl _ | refine ext_drew ?_ | refine ext_alloc ?_ _ | refine ext_trans ?_ (by assumption))⟩

theorem unwrap_sub {s t : List Nat} {n e : Nat} (h : unwrapL s = (t, n, e)) : t.length ≤ s.length ∧ ∀ c ∈ t, c ∈ s := by
  unfold unwrapL at h
  split at h
  · simp at h; obtain ⟨rfl, -, -⟩ := h; simp
  split at h
  · simp at h; obtain ⟨rfl, -, -⟩ := h; simp
  split at h
  · simp at h; obtain ⟨rfl, -, -⟩ := h; simp
  split at h
  · simp at h; obtain ⟨rfl, -, -⟩ := h; simp
  split at h
  · simp at h; obtain ⟨rfl, -, -⟩ := h; simp
  split at h
  · simp at h; obtain ⟨rfl, -, -⟩ := h; simp
  · simp only [Prod.mk.injEq] at h
    obtain ⟨rfl, -, -⟩ := h
    exact ⟨by simp; omega, fun c hc => List.mem_of_mem_take (List.mem_of_mem_drop hc)⟩

set_option maxRecDepth 100000 in
set_option maxHeartbeats 4000000 in
theorem frameBack_walk (b s : ByteArray) (x : Int) (w : World) (hs0 : s.size ≤ 9223372036854775807) (hb0 : b.size ≤ 9223372036854775807) (hx : 0 ≤ x ∧ x ≤ 255) :
    Calls Try.prog 6 #[.string b, .string s, .int .u8 x] w fun e w' => e = .returned (.bool true) ∧ Below w.heap.size w w' := by
  by_cases h1 : 20000 < b.size
  · have g1 : (20000 : Int) < (b.size : Int) := by omega
    go_enter Try.func6, Try.ntmps6
    go_wp2_with fail
    refine (works_any _).mono ?_
    rintro e' w1 ⟨rfl, hb1⟩
    go_wp2_with fail
    refine (works_any _).mono ?_
    rintro e' w2 ⟨rfl, hb2⟩
    go_wp2_with fail
    go_ret
    exact ⟨rfl, by repeat (first | assumption | exact ext_refl _ | refine ext_drew ?_ | refine ext_alloc ?_ _ | refine ext_trans ?_ (by assumption))⟩
  have g1 : decide ((20000 : Int) < (b.size : Int)) = false := by rw [decide_eq_false_iff_not]; omega
  by_cases h2 : 20000 < s.size
  · have g2 : (20000 : Int) < (s.size : Int) := by omega
    go_enter Try.func6, Try.ntmps6
    go_wp2_with fail
    refine (works_any _).mono ?_
    rintro e' w1 ⟨rfl, hb1⟩
    go_wp2_with fail
    refine (works_any _).mono ?_
    rintro e' w2 ⟨rfl, hb2⟩
    go_wp2_with fail
    go_ret
    exact ⟨rfl, by repeat (first | assumption | exact ext_refl _ | refine ext_drew ?_ | refine ext_alloc ?_ _ | refine ext_trans ?_ (by assumption))⟩
  have g2 : decide ((20000 : Int) < (s.size : Int)) = false := by rw [decide_eq_false_iff_not]; omega
  have hb2 : b.size ≤ 20000 := by omega
  have HWF := hid (fun w => wrap_fine b w hb2)
  have HBK := hid (fun w => back_any b w hb2)
  have hal : (bstr (frameL (byt b))).size ≤ 20014 ∧ 5 ≤ (bstr (frameL (byt b))).size := by
    rw [bstr_size, frameL_len, byt_len]
    have := putN_len b.size
    have := putN_pos b.size
    omega
  have hab := byt_frame b
  have hcut := unwrap_cut (b := byt b) (by rw [byt_len]; omega) (byt_lt b) (frameL (byt b)) rfl
  have hlong := unwrap_long (b := byt b) (by rw [byt_len]; omega) (byt_lt b) x.toNat (frameL (byt b)) rfl
  generalize bstr (frameL (byt b)) = a at *
  rw [← hab, byt_len] at hcut hlong
  have ha1 : (a.size : Int) ≤ 20014 := by omega
  have ha5 : (5 : Int) ≤ (a.size : Int) := by omega
  have HA : Hid (a.size ≤ 20014 ∧ 5 ≤ a.size) := hid hal
  have HCUT := hid hcut
  have HLONG := hid hlong
  obtain ⟨hx0, hx1⟩ := hx
  obtain ⟨n, rfl⟩ := Int.eq_ofNat_of_zero_le hx0
  have hn : n < 256 := by omega
  have hk1 : ∀ W : World, (convert 23 9 (.slice (some ⟨W.heap.size, 0, none⟩) 1 1)).run Try.prog (W.alloc (.cells #[.int .u8 (n : Int)] 5)) = .ok (.string (bstr [n])) (W.alloc (.cells #[.int .u8 (n : Int)] 5)) := fun W => run_conv_one _ _ n hn _ (Blk.new _ _ _)
  have hno : ¬ (9223372036854775807 < a.size + (bstr [n]).size) := by rw [bstr_size]; simp; omega
  have HN := hid hn
  have HS := hid (show s.size ≤ 20000 by omega)
  have hsub1 : (0 : Int) ≤ (a.size : Int) - 1 := by omega
  have hsub2 : (a.size : Int) - 1 ≤ (a.size : Int) := by omega
  have hsz2 : ((a.size - 1 : Nat) : Int) = (a.size : Int) - 1 := by omega
  have HZ := hid hsz2
  clear h1 h2 hal hab hcut hlong hn hb2 hsz2
  go_enter Try.func6, Try.ntmps6
  go_wp2_with fail
  refine (works_any _).mono ?_
  rintro e' w1 ⟨rfl, hb1⟩
  go_wp2_with fail
  refine (HWF.out _).mono ?_
  rintro e' w2 ⟨rfl, hb2⟩
  go_wp2_with fail
  refine (HBK.out _).mono ?_
  rintro e' w3 ⟨rfl, hb3⟩
  go_wp2_with fail
  rw [← HZ.out]
  have hE3 := ext_trans (ext_trans hb1 hb2) hb3
  clear hb1 hb2 hb3
  refine (no_any (a.extract 0 (a.size - 1)) (a.size - 1) 8 _ (by rw [ByteArray.size_extract]; omega) (by rw [byt_head]; exact HCUT.out)).mono ?_
  rintro e' w4 ⟨rfl, hb4⟩
  have hk2 := hk1 w4
  go_wp2_with fail
  refine (no_any (a ++ bstr [n]) a.size 10 _ (by rw [ByteArray.size_append, bstr_size]; simp; omega) (by rw [byt_append, byt_bstr (by simpa using HN.out)]; exact HLONG.out)).mono ?_
  rintro e' w5 ⟨rfl, hb5⟩
  have hE5 : Below w.heap.size w w5 := by repeat (first | assumption | exact ext_refl _ | refine ext_drew ?_ | refine ext_alloc ?_ _ | refine ext_trans ?_ (by assumption))
  clear hb4 hb5 hE3 hk2 hk1
  obtain ⟨t, m, er, hU⟩ : ∃ t m er, unwrapL (byt s) = (t, m, er) := ⟨_, _, _, rfl⟩
  have HU := hid hU
  clear hU
  go_wp2_with fail
  refine (unwrap_x s _ hs0).mono ?_
  rw [HU.out]
  rintro e' w6 ⟨rfl, hb6⟩
  have hE6 := ext_trans hE5 hb6
  clear hb6 hE5
  dsimp only
  by_cases he : er = 0
  · subst he
    have hW := wrap_unwrap (byt_lt s) HU.out
    obtain ⟨hW1, rfl⟩ := hW
    obtain ⟨hl1, hl2⟩ := unwrap_sub HU.out
    rw [byt_len] at hl1
    have hbt : byt (bstr t) = t := byt_bstr (fun c hc => byt_lt s c (hl2 c hc))
    have HW : Hid (bstr (wrapL (byt (bstr t))).1 = s ∧ (wrapL (byt (bstr t))).2 = 0) := hid (by rw [hbt, hW1]; exact ⟨bstr_byt s, rfl⟩)
    have HL : Hid ((bstr t).size ≤ 9223372036854775807) := hid (by rw [bstr_size]; omega)
    clear hW1 hl1 hl2 hbt
    generalize bstr t = tt at *
    go_wp2_with fail
    refine (wrap_x tt _ HL.out).mono ?_
    rw [HW.out.1, HW.out.2]
    rintro e' w7 ⟨rfl, hb7⟩
    go_wp2_with fail
    go_ret
    exact ⟨rfl, ext_trans hE6 hb7⟩
  · have ht1 : ((er : Int) != 0) = true := by rw [bne_iff_ne]; omega
    obtain ⟨rfl, hm⟩ := unwrap_place HU.out he
    rw [byt_len] at hm
    have hm1 : (m : Int) ≤ (s.size : Int) := by omega
    have hm0 : (0 : Int) ≤ (m : Int) := by omega
    rw [show bstr [] = ⟨#[]⟩ from rfl]
    clear he hm
    go_wp2_with fail
    go_ret
    exact ⟨rfl, hE6⟩
end Go.Proofs.Ytonckpblbdopmaa
