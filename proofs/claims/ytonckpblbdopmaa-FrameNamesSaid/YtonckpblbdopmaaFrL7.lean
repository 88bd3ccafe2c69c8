/-
  FrameNames: the plain facts, and the walk.
-/
import Derived.Test.YtonckpblbdopmaaFrL6
namespace Go.Proofs.Ytonckpblbdopmaa
set_option linter.unusedVariables false
open Go Go.RowKit

theorem BlkM.below {w w' : World} {b n : Nat} {cs : Array Value} {t : TypeId} (hb : Below w.heap.size w w') (h : BlkM w b cs t n) : BlkM w' b cs t n := by
  have hl := h.lt
  unfold BlkM at h ⊢
  rw [hb.block b hl]; exact h
set_option maxRecDepth 100000 in
set_option maxHeartbeats 4000000 in
theorem run_mkmore (W : World) (n : Nat) (hn : n ≤ 20000000) : (Instr.makeSlice 23 (.int .i64 (n : Int)) (.int .i64 (n : Int))).run Try.prog W = .ok (.slice (some ⟨W.heap.size, 0, none⟩) n n) (W.alloc (.cells (rowB (List.replicate n 0)) 5)) := by
  obtain ⟨i0, hi, hz0, hz1, hz2⟩ := info_parts infoU8
  rw [run_make W 23 5 i0 _ Try.underlying23 hi hz0 .i64 .i64 n n (by omega) (by omega) (by rw [hz2]; omega) (by omega), hz1]
  congr 1
  simp only [Int.toNat_natCast, Nat.mul_one]
  congr 1
  unfold rowB madeCells
  congr 1
  apply Array.ext
  · simp
  · intro j h1 h2
    simp [Value.cells, Nat.mod_one]
/-- Many zeros: the row, and the text. -/
theorem mk_zero (n : Nat) (i : Int) (hi : i = (n : Int)) (hn : n ≤ 20000000) : ∃ (R : Array Value) (Z : ByteArray), Z.size = n ∧
    (∀ W, (Instr.makeSlice 23 (.int .i64 i) (.int .i64 i)).run Try.prog W = .ok (.slice (some ⟨W.heap.size, 0, none⟩) n n) (W.alloc (.cells R 5))) ∧
    (∀ (W : World) (b : Nat), Blk W b R 5 → (convert 23 9 (.slice (some ⟨b, 0, none⟩) n n)).run Try.prog W = .ok (.string Z) W) := by
  subst hi
  refine ⟨rowB (List.replicate n 0), bstr (List.replicate n 0), by rw [bstr_size, List.length_replicate], fun W => run_mkmore W n hn, fun W b hW => ?_⟩
  have h := run_conv_bytes W b 0 n (List.replicate n 0) (fun c hc => by rw [List.eq_of_mem_replicate hc]; omega) (fun j hj => by
    rw [Nat.zero_add]
    exact hW.cell j (rowB_at _ j hj))
  rw [List.length_replicate] at h
  exact h

theorem zero_wide {Z : ByteArray} (h : Z.size = 16777209) : wrapL (byt Z) = ([], 40) := by
  unfold wrapL
  rw [byt_len, h, show (putN 16777209).length = 4 by decide +kernel, if_pos (by decide)]
theorem zero_big {Z : ByteArray} (h : Z.size = 16777217) : unwrapL (byt Z) = ([], 0, 40) := by
  unfold unwrapL
  rw [if_pos (by rw [byt_len, h]; decide)]
theorem abc_frame : bstr (frameL (byt ⟨#[97, 98, 99]⟩)) = ⟨#[3, 97, 98, 99, 34, 232, 148, 249]⟩ := by decide +kernel
theorem no_1 : unwrapL (byt ⟨#[]⟩) = ([], 0, 8) := by decide +kernel
theorem no_2 : unwrapL (byt ⟨#[128, 0]⟩) = ([], 0, 11) := by decide +kernel
theorem no_3 : unwrapL (byt ⟨#[129, 128, 128, 8]⟩) = ([], 0, 20) := by decide +kernel
theorem no_4 : unwrapL (byt ⟨#[128, 128, 128, 8]⟩) = ([], 4, 8) := by decide +kernel
theorem no_5 : unwrapL (byt (ByteArray.extract ⟨#[3, 97, 98, 99, 34, 232, 148, 249]⟩ 0 7)) = ([], 7, 8) := by decide +kernel
theorem no_6 : unwrapL (byt (⟨#[3, 97, 98, 99, 34, 232, 148, 249]⟩ ++ ⟨#[120]⟩)) = ([], 8, 10) := by decide +kernel
theorem no_7 : unwrapL (byt (bstr [3, 97, 99, 99, 34, 232, 148, 249])) = ([], 4, 9) := by decide +kernel

theorem s_head : (!(ByteArray.extract ⟨#[3, 97, 98, 99, 34, 232, 148, 249]⟩ 0 4).toList == [3, 97, 98, 99]) = false := by decide +kernel
theorem s_bytes : byt ⟨#[3, 97, 98, 99, 34, 232, 148, 249]⟩ = [3, 97, 98, 99, 34, 232, 148, 249] := by decide +kernel

set_option maxRecDepth 100000 in
set_option maxHeartbeats 8000000 in
theorem frameNames_walk (w : World) :
    Calls Try.prog 4 #[] w fun e w' => e = .returned (.bool true) ∧ Below w.heap.size w w' := by
  obtain ⟨s, hs⟩ : ∃ s : ByteArray, s = ⟨#[3, 97, 98, 99, 34, 232, 148, 249]⟩ := ⟨_, rfl⟩
  have hs8 : s.size = 8 := by rw [hs]; rfl
  have h0 := s_head
  have h1 := s_bytes
  have h2 := abc_frame
  have h5 := no_5
  have h6 := no_6
  rw [← hs] at h0 h1 h2 h5 h6
  clear hs
  obtain ⟨R1, Z1, hz1, hmk1, hcv1⟩ := mk_zero 16777209 16777209 rfl (by decide)
  obtain ⟨R2, Z2, hz2, hmk2, hcv2⟩ := mk_zero 16777217 16777217 rfl (by decide)
  have hsx : (s ++ (⟨#[120]⟩ : ByteArray)).size = 9 := by rw [← byt_len, byt_append, List.length_append, byt_len, hs8]; rfl
  have HSX := hid hsx
  clear hsx
  have HV1 := hid hcv1
  have HV2 := hid hcv2
  clear hcv1 hcv2
  have HZ1 := hid hz1
  have HZ2 := hid hz2
  have HW := hid (fun w => wrap_fine ⟨#[97, 98, 99]⟩ w (by decide))
  rw [h2] at HW
  have H1 := hid h1
  have H5 := hid h5
  have H6 := hid h6
  clear hz1 hz2 h1 h2 h5 h6
  go_enter Try.func4, Try.ntmps4
  go_wp2_with fail
  refine (HW.out _).mono ?_
  rintro e' w1 ⟨rfl, hb1⟩
  go_wp2_with fail
  refine (works_any _).mono ?_
  rintro e' w2 ⟨rfl, hb2⟩
  go_wp2_with fail
  refine (back_any _ _ (by decide)).mono ?_
  rintro e' w3 ⟨rfl, hb3⟩
  obtain ⟨c, hc, hcs⟩ := run_bytes w3 s
  rw [hs8] at hc hcs
  rw [H1.out] at hcs
  have hB0 : BlkM (w3.alloc (.cells (rowZ [3, 97, 98, 99, 34, 232, 148, 249] c) 5 (c, c + 1))) w3.heap.size (rowZ [3, 97, 98, 99, 34, 232, 148, 249] c) 5 c := BlkM.new w3 _ _ c
  have c0 := hB0.cell 2 (v := .int .u8 98) (rowZ_at _ _ 2 (by decide))
  have f0 := hB0.free 2 (by omega)
  have HB := hid hB0
  clear hB0
  have HC := hid hc
  clear hc
  have hB := ext_trans (ext_trans hb1 hb2) hb3
  clear hb1 hb2 hb3
  have hle := hB.size
  have hA := ext_alloc hB (.cells (rowZ [3, 97, 98, 99, 34, 232, 148, 249] c) 5 (c, c + 1))
  have HLE := hid hle
  have HA := hid hA
  clear hA hB hle
  go_wp2_with fail
  rw [HV1.out _ _ (Blk.drew (Blk.new' _ _ _ ?blk))]
  case blk => simp
  go_wp2_with fail
  refine (wrap_x Z1 _ (by rw [HZ1.out]; decide)).mono ?_
  rw [zero_wide HZ1.out]
  rintro e' w4 ⟨rfl, hb4⟩
  have HB4 := hid (BlkM.below hb4 (BlkM.below (ext_drew (ext_alloc (ext_refl _) _)) (HB.out.set 2 (.int .u8 99))))
  have hE := ext_trans (ext_drew (ext_alloc (ext_set HA.out HLE.out _) _)) hb4
  clear hb4 HB HA c0 f0
  go_wp2_with fail
  refine (no_any ⟨#[]⟩ 0 8 _ (by decide) no_1).mono ?_
  rintro e' w5 ⟨rfl, hb5⟩
  have HB5 := hid (BlkM.below hb5 HB4.out)
  have hE := ext_trans hE hb5
  clear hb5 HB4
  go_wp2_with fail
  refine (no_any ⟨#[128, 0]⟩ 0 11 _ (by decide) no_2).mono ?_
  rintro e' w6 ⟨rfl, hb6⟩
  have HB6 := hid (BlkM.below hb6 HB5.out)
  have hE := ext_trans hE hb6
  clear hb6 HB5
  go_wp2_with fail
  refine (no_any ⟨#[129, 128, 128, 8]⟩ 0 20 _ (by decide) no_3).mono ?_
  rintro e' w7 ⟨rfl, hb7⟩
  have HB7 := hid (BlkM.below hb7 HB6.out)
  have hE := ext_trans hE hb7
  clear hb7 HB6
  go_wp2_with fail
  refine (no_any ⟨#[128, 128, 128, 8]⟩ 4 8 _ (by decide) no_4).mono ?_
  rintro e' w8 ⟨rfl, hb8⟩
  have HB8 := hid (BlkM.below hb8 HB7.out)
  have hE := ext_trans hE hb8
  clear hb8 HB7
  go_wp2_with fail
  refine (no_any (s.extract 0 7) 7 8 _ (by rw [← byt_len, byt_head, List.length_take, byt_len]; omega) H5.out).mono ?_
  rintro e' w9 ⟨rfl, hb9⟩
  have HB9 := hid (BlkM.below hb9 HB8.out)
  have hE := ext_trans hE hb9
  clear hb9 HB8
  go_wp2_with fail
  have hX := no_any (s ++ (⟨#[120]⟩ : ByteArray)) 8 10 w9 (by rw [HSX.out]; omega)
  have hX := hX H6.out
  refine hX.mono ?_
  clear hX
  rintro e' w10 ⟨rfl, hb10⟩
  have HB10 := hid (BlkM.below hb10 HB9.out)
  have hE := ext_trans hE hb10
  clear hb10 HB9
  have hrz : (rowZ [3, 97, 98, 99, 34, 232, 148, 249] c).setIfInBounds 2 (.int .u8 99) = rowZ [3, 97, 99, 99, 34, 232, 148, 249] c := rowZ_set [3, 97, 98, 99, 34, 232, 148, 249] c 2 99 (by decide)
  have hcv2 := run_conv_bytes w10 w3.heap.size 0 c [3, 97, 99, 99, 34, 232, 148, 249] (by decide) (fun j hj => by rw [Nat.zero_add]; exact HB10.out.cell j (by rw [hrz]; exact rowZ_at [3, 97, 99, 99, 34, 232, 148, 249] c j hj))
  simp only [List.length_cons, List.length_nil, Nat.reduceAdd] at hcv2
  clear hrz
  go_wp2_with fail
  refine (no_any (bstr [3, 97, 99, 99, 34, 232, 148, 249]) 4 9 _ (by rw [bstr_size]; simp only [List.length_cons, List.length_nil]; omega) no_7).mono ?_
  rintro e' w11 ⟨rfl, hb11⟩
  have hE := ext_trans hE hb11
  clear hb11 HB10 hcv2
  go_wp2_with fail
  rw [HV2.out _ _ (Blk.new' _ _ _ ?blk2)]
  case blk2 => simp
  go_wp2_with fail
  refine (no_any Z2 0 40 _ (by rw [HZ2.out]; decide) (zero_big HZ2.out)).mono ?_
  rintro e' w12 ⟨rfl, hb12⟩
  have hE := ext_trans (ext_alloc hE _) hb12
  clear hb12
  go_wp2_with fail
  go_ret
  exact ⟨rfl, hE⟩
end Go.Proofs.Ytonckpblbdopmaa
