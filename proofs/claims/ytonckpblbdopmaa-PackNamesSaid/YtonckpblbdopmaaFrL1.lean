/-
  Frames: exact contracts; the examples (works); FrameTells.
-/
import Derived.Test.YtonckpblbdopmaaFrW6
namespace Go.Proofs.Ytonckpblbdopmaa
set_option linter.unusedVariables false
open Go Go.RowKit

theorem eq_bstr {s : ByteArray} {l : List Nat} (h : byt s = l) : s = bstr l := by rw [← h, bstr_byt]
theorem wrap_x (b : ByteArray) (w : World) (hb : b.size ≤ 9223372036854775807) : Calls Try.prog 20 #[.string b] w fun e w' => e = .returned (.tuple #[.string (bstr (wrapL (byt b)).1), .int .i64 (wrapL (byt b)).2]) ∧ Below w.heap.size w w' :=
  (wrap_any b w hb).mono fun _ _ ⟨s, h1, h2, h3⟩ => ⟨by rw [h1, eq_bstr h2], h3⟩
theorem rwrap_x (b : ByteArray) (w : World) (hb : b.size ≤ 140737488351232) : Calls Try.prog 23 #[.string b] w fun e w' => e = .returned (.tuple #[.string (bstr (wrapL (byt b)).1), .int .i64 (wrapL (byt b)).2]) ∧ Below w.heap.size w w' :=
  (rwrap_any b w hb).mono fun _ _ ⟨s, h1, h2, h3⟩ => ⟨by rw [h1, eq_bstr h2], h3⟩
theorem unwrap_x (b : ByteArray) (w : World) (hb : b.size ≤ 9223372036854775807) : Calls Try.prog 25 #[.string b] w fun e w' => e = .returned (.tuple #[.string (bstr (unwrapL (byt b)).1), .int .i64 (unwrapL (byt b)).2.1, .int .i64 (unwrapL (byt b)).2.2]) ∧ Below w.heap.size w w' :=
  (unwrap_any b w hb).mono fun _ _ ⟨s, h1, h2, h3⟩ => ⟨by rw [h1, eq_bstr h2], h3⟩
theorem runwrap_x (b : ByteArray) (w : World) (hb : b.size ≤ 9223372036854775807) : Calls Try.prog 26 #[.string b] w fun e w' => e = .returned (.tuple #[.string (bstr (unwrapL (byt b)).1), .int .i64 (unwrapL (byt b)).2.1, .int .i64 (unwrapL (byt b)).2.2]) ∧ Below w.heap.size w w' :=
  (runwrap_any b w hb).mono fun _ _ ⟨s, h1, h2, h3⟩ => ⟨by rw [h1, eq_bstr h2], h3⟩

theorem wrap_empty : bstr (wrapL (byt ⟨#[]⟩)).1 = ⟨#[0, 141, 239, 2, 210]⟩ ∧ (wrapL (byt ⟨#[]⟩)).2 = 0 := by
  have h : (wrapL (byt ⟨#[]⟩)) = ([0, 141, 239, 2, 210], 0) := by decide +kernel
  rw [h]
  exact ⟨rfl, rfl⟩
theorem sum_empty : sumN (byt ⟨#[]⟩) = 0 := by decide +kernel
theorem sum_nine : sumN (byt ⟨#[49, 50, 51, 52, 53, 54, 55, 56, 57]⟩) = 3421780262 := by decide +kernel

set_option maxRecDepth 100000 in
set_option maxHeartbeats 4000000 in
theorem works_any (w : World) : Calls Try.prog 18 #[] w fun e w' => e = .returned (.bool true) ∧ Below w.heap.size w w' := by
  have HW := hid wrap_empty
  have H0 := hid sum_empty
  have H9 := hid sum_nine
  go_enter Try.func18, Try.ntmps18
  go_wp2_with fail
  refine (wrap_x ⟨#[]⟩ _ (by decide)).mono ?_
  rw [HW.out.1, HW.out.2]
  rintro e' w1 ⟨rfl, hb1⟩
  go_wp2_with fail
  refine (sum_any ⟨#[]⟩ _ (by decide)).mono ?_
  rw [H0.out]
  rintro e' w2 ⟨rfl, hb2⟩
  go_wp2_with fail
  refine (sum_any ⟨#[49, 50, 51, 52, 53, 54, 55, 56, 57]⟩ _ (by decide)).mono ?_
  rw [H9.out]
  rintro e' w3 ⟨rfl, hb3⟩
  go_wp2_with fail
  go_ret
  exact ⟨rfl, by repeat (first | assumption | exact ext_refl _ | refine ext_drew ?_ | refine ext_alloc ?_ _ | refine ext_trans ?_ (by assumption))⟩

theorem wrapL_size (b : List Nat) : (wrapL b).1.length ≤ b.length + 14 := by
  have := putN_len b.length
  unfold wrapL
  split
  · simp
  · simp [sealN]; omega
/-- Four texts in a row, none too long. -/
def Txts (w : World) (b n m : Nat) : Prop := ∀ k, k < n → ∃ x : ByteArray, w.cell? ⟨b, k, none⟩ = some (.string x) ∧ x.size ≤ m
theorem Txts.below {w w' : World} {b n m : Nat} (hb : Below w.heap.size w w') (h : Txts w b n m) : Txts w' b n m := fun k hk => by
  obtain ⟨x, h1, h2⟩ := h k hk
  exact ⟨x, later hb h1, h2⟩

set_option maxRecDepth 100000 in
set_option maxHeartbeats 4000000 in
theorem frameTells_walk (s b : ByteArray) (w : World) (hs0 : s.size ≤ 9223372036854775807) (hb0 : b.size ≤ 9223372036854775807) :
    Calls Try.prog 5 #[.string s, .string b] w fun e w' => e = .returned (.bool true) ∧ Below w.heap.size w w' := by
  by_cases h1 : 20000 < s.size
  · have g1 : (20000 : Int) < (s.size : Int) := by omega
    go_enter Try.func5, Try.ntmps5
    go_wp2_with fail
    go_ret
    exact ⟨rfl, ext_refl _⟩
  have g1 : decide ((20000 : Int) < (s.size : Int)) = false := by rw [decide_eq_false_iff_not]; omega
  by_cases h2 : 20000 < b.size
  · have g2 : (20000 : Int) < (b.size : Int) := by omega
    clear h1
    go_enter Try.func5, Try.ntmps5
    go_wp2_with fail
    go_ret
    exact ⟨rfl, ext_refl _⟩
  have g2 : decide ((20000 : Int) < (b.size : Int)) = false := by rw [decide_eq_false_iff_not]; omega
  have hal : (bstr (wrapL (byt b)).1).size ≤ 20014 := by
    rw [bstr_size]
    have := wrapL_size (byt b)
    rw [byt_len] at this
    omega
  have HW1 := hid (wrap_x b w hb0)
  have HW2 := hid (fun w => rwrap_x b w (by omega))
  generalize bstr (wrapL (byt b)).1 = a at *
  generalize (wrapL (byt b)).2 = er at *
  have ha1 : (a.size : Int) ≤ 20014 := by omega
  have ha0 : (0 : Int) ≤ (a.size : Int) := by omega
  have hs1 : (s.size : Int) ≤ 20000 := by omega
  have hno : ¬ (9223372036854775807 < a.size + s.size) := by omega
  have hh : (a.size : Int) / 2 ≤ (a.size : Int) := by omega
  have hh0 : (0 : Int) ≤ (a.size : Int) / 2 := by omega
  have HSS : Hid (s.size ≤ 20000 ∧ a.size ≤ 20014) := hid ⟨by omega, hal⟩
  clear h1 h2 hal
  go_enter Try.func5, Try.ntmps5
  go_wp2_with fail
  refine HW1.out.mono ?_
  rintro e' w1 ⟨rfl, hb1⟩
  go_wp2_with fail
  refine (HW2.out _).mono ?_
  rintro e' w2 ⟨rfl, hb2⟩
  go_wp2_with fail
  refine (sum_any s _ hs0).mono ?_
  rintro e' w3 ⟨rfl, hb3⟩
  go_wp2_with fail
  refine (rsum_any s _ hs0).mono ?_
  rintro e' w4 ⟨rfl, rfl⟩
  have hE3 := ext_trans (ext_trans hb1 hb2) hb3
  clear hb1 hb2 hb3 HW1 HW2
  go_wp2_with fail
  have hA := ext_alloc (ext_refl w3) (.cells #[.string s, .string a, .string (a ++ s), .string (a.extract 0 (a.size / 2))] 9)
  have HT : Hid (Txts (w3.alloc (.cells #[.string s, .string a, .string (a ++ s), .string (a.extract 0 (a.size / 2))] 9)) w3.heap.size 4 40020) := hid (by
    have hN := Blk.new w3 #[.string s, .string a, .string (a ++ s), .string (a.extract 0 (a.size / 2))] 9
    obtain ⟨q1, q2⟩ := HSS.out
    intro k hk
    match k, hk with
    | 0, _ => exact ⟨s, hN.cell 0 rfl, by omega⟩
    | 1, _ => exact ⟨a, hN.cell 1 rfl, by omega⟩
    | 2, _ => exact ⟨a ++ s, hN.cell 2 rfl, by rw [ByteArray.size_append]; omega⟩
    | 3, _ => exact ⟨a.extract 0 (a.size / 2), hN.cell 3 rfl, by rw [ByteArray.size_extract]; omega⟩)
  have hE4 := ext_trans hE3 hA
  clear hA hE3 hno hh hh0
  go_loopw [62] (fun i wr => ∃ k : Nat, k ≤ 4 ∧ i = .int .i64 k ∧ Hid (Txts wr w3.heap.size 4 40020) ∧ Below w.heap.size w wr) (fun i _ => 4 - (intOf i).toNat)
  case atStart => exact ⟨0, by omega, rfl, HT, hE4⟩
  case round =>
    obtain ⟨k, hk, rfl, HTr, hb⟩ := hrel
    clear HT hE4
    by_cases hlt : k < 4
    · obtain ⟨x, c0, hx⟩ := HTr.out k hlt
      have hx2 : x.size ≤ 9223372036854775807 := by omega
      clear hx
      go_wp2_with fail
      refine (unwrap_x x _ hx2).mono ?_
      rintro e' w5 ⟨rfl, hb5⟩
      go_wp2_with fail
      refine (runwrap_x x _ hx2).mono ?_
      rintro e' w6 ⟨rfl, hb6⟩
      have hE : Below wr.heap.size wr w6 := ext_trans hb5 hb6
      clear hb5 hb6 c0
      go_wp2_with fail
      go_roundw
      case rel => exact ⟨k + 1, by omega, by go_num, hid (HTr.out.below hE), ext_trans hb hE⟩
      case measure => simp [intOf]; omega
    · obtain rfl : k = 4 := by omega
      go_wp2_with fail
      go_ret
      exact ⟨rfl, hb⟩
end Go.Proofs.Ytonckpblbdopmaa
