/-
  The document's writer and coder: numbers, Raw, Copy, knows, Bytes (seesawref01, 02, 14).
-/
import Derived.Test.YtokkafiphchejaaDoorDqP
namespace Go.Proofs.YtokkafiphchejaaDoor
set_option linter.unusedVariables false
set_option linter.unusedSimpArgs false
set_option linter.unusedVariables false
open Go Go.RowKit
set_option maxRecDepth 100000 in
set_option maxHeartbeats 4000000 in
theorem rzig_any (x : Int) (w : World) (hx : -9223372036854775808 ≤ x ∧ x ≤ 9223372036854775807) : Calls Tryd.prog 67 #[.int .i64 x] w fun e w' => e = .returned (.int .u64 (zigZ x : Int)) ∧ w = w' := by
  by_cases h : 0 ≤ x
  · have h1 : decide ((0 : Int) ≤ x) = true := decide_eq_true h
    have e1 : IntKind.u64.wrap x = x := IntWalk.u64_in _ (by omega)
    have e2 : IntKind.u64.wrap (2 * x) = (zigZ x : Int) := by rw [IntWalk.u64_in _ (by omega)]; unfold zigZ; split <;> omega
    go_enter Tryd.func67, Tryd.ntmps67
    go_wp2_with fail
    go_ret
    exact ⟨rfl, rfl⟩
  · have h1 : decide ((0 : Int) ≤ x) = false := decide_eq_false h
    have e0 : IntKind.i64.wrap (x + 1) = x + 1 := IntWalk.i64_in _ (by omega)
    have e1 : IntKind.i64.wrap (-(x + 1)) = -(x + 1) := IntWalk.i64_in _ (by omega)
    have e2 : IntKind.u64.wrap (-(x + 1)) = -(x + 1) := IntWalk.u64_in _ (by omega)
    have e3 : IntKind.u64.wrap (2 * -(x + 1)) = 2 * -(x + 1) := IntWalk.u64_in _ (by omega)
    have e4 : IntKind.u64.wrap (2 * -(x + 1) + 1) = (zigZ x : Int) := by rw [IntWalk.u64_in _ (by omega)]; unfold zigZ; split <;> omega
    have HE4 := hid e4
    go_enter Tryd.func67, Tryd.ntmps67
    go_wp2_with fail
    go_ret
    exact ⟨by rfl, rfl⟩
theorem rput_x (n : Nat) (w : World) (hn : n < 18446744073709551616) : Calls Tryd.prog 66 #[.int .u64 n] w fun e w' => e = .returned (.string (bstr (putN n))) ∧ Below w.heap.size w w' :=
  (rput_any n w hn).mono fun e w' ⟨s, h1, h2, h3⟩ => ⟨by rw [h1, ← h2, bstr_byt], h3⟩
set_option maxRecDepth 100000 in
set_option maxHeartbeats 4000000 in
theorem rnum14_any (n : Nat) (w : World) (hn : n ≤ 9223372036854775807) : Calls Tryd.prog 65 #[.int .i64 (n : Int)] w fun e w' => e = .returned (.string (bstr (putN n))) ∧ Below w.heap.size w w' := by
  have e1 : IntKind.u64.wrap (n : Int) = (n : Int) := IntWalk.u64_in _ (by omega)
  have HP := hid (rput_x n w (by omega))
  go_enter Tryd.func65, Tryd.ntmps65
  go_wp2_with fail
  refine HP.out.mono ?_
  rintro e' w1 ⟨rfl, hb1⟩
  go_wp2_with fail
  go_ret
  exact ⟨rfl, hb1⟩
/-- The document's writer. -/
def RWrt (w : World) (b : Nat) (most : Int) (bs : List Nat) : Prop := Blk w b #[.int .i64 most, .string (bstr bs)] 48
set_option maxRecDepth 100000 in
set_option maxHeartbeats 4000000 in
theorem rNewW_any (most : Int) (w : World) (hm : 0 ≤ most ∧ most ≤ 16777216) : Calls Tryd.prog 15 #[.int .i64 most] w fun e' w' => e' = .returned (.tuple #[.pointer (some ⟨w.heap.size, 0, none⟩), .int .i64 0]) ∧ RWrt w' w.heap.size most [] ∧ Below w.heap.size w w' := by
  have h1 : decide (most < 0) = false := by rw [decide_eq_false_iff_not]; omega
  have h2 : decide ((16777216 : Int) < most) = false := by rw [decide_eq_false_iff_not]; omega
  clear hm
  go_enter Tryd.func15, Tryd.ntmps15
  go_wp2_with fail
  go_ret2
  refine ⟨rfl, ?_, ext_alloc (ext_refl _) _⟩
  exact Blk.new w #[.int .i64 most, .string (bstr [])] 48
set_option maxRecDepth 100000 in
set_option maxHeartbeats 4000000 in
theorem rNewW_bad (most : Int) (w : World) (hm : most < 0 ∨ 16777216 < most) : Calls Tryd.prog 15 #[.int .i64 most] w fun e' w' => e' = .returned (.tuple #[.pointer none, .int .i64 1]) ∧ w' = w := by
  by_cases h0 : most < 0
  case' pos =>
    have h1 : decide (most < 0) = true := decide_eq_true h0
  case' neg =>
    have h1 : decide (most < 0) = false := decide_eq_false h0
    have h2 : decide ((16777216 : Int) < most) = true := by rw [decide_eq_true_iff]; omega
  all_goals
    clear hm h0
    go_enter Tryd.func15, Tryd.ntmps15
    go_wp2_with fail
    go_ret2
    exact ⟨rfl, rfl⟩
set_option maxRecDepth 100000 in
set_option maxHeartbeats 4000000 in
/-- Raw: within the bound the bytes are put behind. -/
theorem rraw_yes (b : Nat) (most : Int) (bs : List Nat) (s : ByteArray) (w : World) (h : RWrt w b most bs) (hb8 : ∀ c ∈ bs, c < 256) (hl : bs.length ≤ 16777216) (hs : s.size ≤ 100000) (hm : ((bs.length + s.size : Nat) : Int) ≤ most) : Calls Tryd.prog 39 #[.pointer (some ⟨b, 0, none⟩), .string s] w fun e' w' => e' = .returned (.int .i64 0) ∧ RWrt w' b most (bs ++ byt s) ∧ Turn [b] w w' := by
  unfold RWrt at h
  obtain ⟨S, hS⟩ : ∃ S, S = bstr bs := ⟨_, rfl⟩
  have hz : S.size = bs.length := by rw [hS]; simp [bstr, ByteArray.size]
  rw [← hS] at h
  have c0 := h.cell 0 (v := .int .i64 most) rfl
  have c1 := h.cell 1 (v := .string S) rfl
  have e1 : IntKind.i64.wrap ((S.size : Int) + (s.size : Int)) = (S.size : Int) + (s.size : Int) := IntWalk.i64_in _ (by omega)
  have e2 : decide (most < (S.size : Int) + (s.size : Int)) = false := by rw [decide_eq_false_iff_not]; omega
  have hz1 : ¬ (9223372036854775807 : Int) < (S.size : Int) + (s.size : Int) := by omega
  have hz3 : ¬ IntKind.i64.max < (S.size : Int) + (s.size : Int) := by rw [show IntKind.i64.max = 9223372036854775807 from rfl]; omega
  have H := hid h
  have HA := hid (show bstr (bs ++ byt s) = S ++ s from byt_inj (by rw [byt_bstr (fun c hc => (List.mem_append.1 hc).elim (hb8 c) (byt_lt s c)), byt_app, hS, byt_bstr hb8]))
  clear h hl hs hm hz hS
  go_enter Tryd.func39, Tryd.ntmps39
  go_wp2_with fail
  go_quiet (fail)
  have hB := H.out.below (ext_drewN (ext_refl w) nq)
  have c1 := hB.cell 1 (v := .string S) rfl
  have f1 := hB.free 1
  have l1 := hB.lt
  have HB := hid hB
  clear hB
  go_wp2_with fail
  go_ret
  refine ⟨rfl, ?_, (Turn.of_below (ext_drewN (ext_refl w) nq)).setCell (p := ⟨b, 1, none⟩) (Or.inl (List.mem_singleton.2 rfl)) _⟩
  unfold RWrt
  rw [HA.out]
  have := HB.out.set 1 (.string (S ++ s))
  simpa using this
set_option maxRecDepth 100000 in
set_option maxHeartbeats 4000000 in
/-- Raw: beyond the bound nothing is turned. -/
theorem rraw_no (b : Nat) (most : Int) (bs : List Nat) (s : ByteArray) (w : World) (h : RWrt w b most bs) (hl : bs.length ≤ 16777216) (hs : s.size ≤ 100000) (hm : most < ((bs.length + s.size : Nat) : Int)) : Calls Tryd.prog 39 #[.pointer (some ⟨b, 0, none⟩), .string s] w fun e' w' => e' = .returned (.int .i64 40) ∧ Below w.heap.size w w' := by
  unfold RWrt at h
  obtain ⟨S, hS⟩ : ∃ S, S = bstr bs := ⟨_, rfl⟩
  have hz : S.size = bs.length := by rw [hS]; simp [bstr, ByteArray.size]
  rw [← hS] at h
  have c0 := h.cell 0 (v := .int .i64 most) rfl
  have c1 := h.cell 1 (v := .string S) rfl
  have e1 : IntKind.i64.wrap ((S.size : Int) + (s.size : Int)) = (S.size : Int) + (s.size : Int) := IntWalk.i64_in _ (by omega)
  have e2 : decide (most < (S.size : Int) + (s.size : Int)) = true := by rw [decide_eq_true_iff]; omega
  clear h hl hs hm hz hS
  go_enter Tryd.func39, Tryd.ntmps39
  go_wp2_with fail
  go_quiet (fail)
  go_wp2_with fail
  go_ret
  exact ⟨rfl, ext_drewN (ext_refl w) nq⟩
end Go.Proofs.YtokkafiphchejaaDoor
