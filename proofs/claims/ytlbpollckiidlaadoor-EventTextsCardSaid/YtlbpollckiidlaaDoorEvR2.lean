/-
  Walk: the document's bare: an event with what its Kind has alone.
-/
import Derived.Test.YtlbpollckiidlaaDoorEvR
import Derived.Test.YtlbpollckiidlaaDoorReg6
namespace Go.Proofs.YtlbpollckiidlaaDoor
set_option linter.unusedVariables false
set_option linter.unusedSimpArgs false
open Go Go.RowKit
theorem TwoSt.blk {W0 w' : World} {b p q m n d : Nat} {x y : Value} {l : Nat → Bool} {cs : Array Value} {t : TypeId} (hne : d ≠ b) (H : TwoSt W0 b p q x y m n l w') (h : Blk W0 d cs t) : Blk w' d cs t := by
  rw [H.is]
  split
  · exact (h.set_other ⟨b, p, none⟩ x hne).set_other ⟨b, q, none⟩ y hne
  · split
    · exact h.set_other ⟨b, p, none⟩ x hne
    · exact h
theorem size2 (w : World) (A B : Obj) : w.heap.size + 1 + 1 = ((w.alloc A).alloc B).heap.size := by
  show _ = ((w.heap.push A).push B).size
  rw [Array.size_push, Array.size_push]
def RBareP (e : Ev) (w : World) (e' : Ending) (w' : World) : Prop := e' = .returned (.agg #[.int .u8 (bareE e).kind, .int .i64 (bareE e).th, .int .i64 (bareE e).tx, .int .i64 (bareE e).at_, .int .i64 (bareE e).v, .int .i64 (bareE e).x, .int .u8 (bareE e).why]) ∧ Below w.heap.size w w'
set_option maxRecDepth 100000 in
set_option maxHeartbeats 4000000 in
theorem rbare_1 (th tx at_ v x why : Int) (w : World) : Calls Tryd.prog 36 #[evA ⟨1, th, tx, at_, v, x, why⟩] w (RBareP ⟨1, th, tx, at_, v, x, why⟩ w) := by
  have HR : Hid ((.agg #[.int .u8 (bareE ⟨1, th, tx, at_, v, x, why⟩).kind, .int .i64 (bareE ⟨1, th, tx, at_, v, x, why⟩).th, .int .i64 (bareE ⟨1, th, tx, at_, v, x, why⟩).tx, .int .i64 (bareE ⟨1, th, tx, at_, v, x, why⟩).at_, .int .i64 (bareE ⟨1, th, tx, at_, v, x, why⟩).v, .int .i64 (bareE ⟨1, th, tx, at_, v, x, why⟩).x, .int .u8 (bareE ⟨1, th, tx, at_, v, x, why⟩).why] : Value) = .agg #[.int .u8 1, .int .i64 th, .int .i64 tx, .int .i64 0, .int .i64 v, .int .i64 0, .int .u8 0]) := hid (by rfl)
  unfold RBareP
  dsimp only [evA]
  have HB3 : Hid (Below w.heap.size w (((w.alloc (.cells #[.int .u8 1, .int .i64 th, .int .i64 tx, .int .i64 at_, .int .i64 v, .int .i64 x, .int .u8 why] 23)).alloc (.cells #[.int .u8 0, .int .i64 0, .int .i64 0, .int .i64 0, .int .i64 0, .int .i64 0, .int .u8 0] 23)).alloc (.cells #[.int .u8 1, .int .i64 th, .int .i64 0, .int .i64 0, .int .i64 0, .int .i64 0, .int .u8 0] 23))) := hid (ext_alloc (ext_alloc (ext_alloc (ext_refl _) _) _) _)
  have HS3 : Hid (Blk (((w.alloc (.cells #[.int .u8 1, .int .i64 th, .int .i64 tx, .int .i64 at_, .int .i64 v, .int .i64 x, .int .u8 why] 23)).alloc (.cells #[.int .u8 0, .int .i64 0, .int .i64 0, .int .i64 0, .int .i64 0, .int .i64 0, .int .u8 0] 23)).alloc (.cells #[.int .u8 1, .int .i64 th, .int .i64 0, .int .i64 0, .int .i64 0, .int .i64 0, .int .u8 0] 23)) w.heap.size #[.int .u8 1, .int .i64 th, .int .i64 tx, .int .i64 at_, .int .i64 v, .int .i64 x, .int .u8 why] 23) := hid (((Blk.new _ _ _).alloc _).alloc _)
  have HZ3 : Hid (Blk (((w.alloc (.cells #[.int .u8 1, .int .i64 th, .int .i64 tx, .int .i64 at_, .int .i64 v, .int .i64 x, .int .u8 why] 23)).alloc (.cells #[.int .u8 0, .int .i64 0, .int .i64 0, .int .i64 0, .int .i64 0, .int .i64 0, .int .u8 0] 23)).alloc (.cells #[.int .u8 1, .int .i64 th, .int .i64 0, .int .i64 0, .int .i64 0, .int .i64 0, .int .u8 0] 23)) (w.heap.size + 1) #[.int .u8 0, .int .i64 0, .int .i64 0, .int .i64 0, .int .i64 0, .int .i64 0, .int .u8 0] 23) := hid ((Blk.new' _ _ _ (Array.size_push ..).symm).alloc _)
  have HD3 : Hid (Blk (((w.alloc (.cells #[.int .u8 1, .int .i64 th, .int .i64 tx, .int .i64 at_, .int .i64 v, .int .i64 x, .int .u8 why] 23)).alloc (.cells #[.int .u8 0, .int .i64 0, .int .i64 0, .int .i64 0, .int .i64 0, .int .i64 0, .int .u8 0] 23)).alloc (.cells #[.int .u8 1, .int .i64 th, .int .i64 0, .int .i64 0, .int .i64 0, .int .i64 0, .int .u8 0] 23)) (w.heap.size + 1 + 1) #[.int .u8 1, .int .i64 th, .int .i64 0, .int .i64 0, .int .i64 0, .int .i64 0, .int .u8 0] 23) := hid (Blk.new' _ _ _ (size2 _ _ _))
  go_enter Tryd.func36, Tryd.ntmps36
  have s0 := HS3.out.cell 0 rfl
  have s1 := HS3.out.cell 1 rfl
  have s2 := HS3.out.cell 2 rfl
  have s3 := HS3.out.cell 3 rfl
  have s4 := HS3.out.cell 4 rfl
  have s5 := HS3.out.cell 5 rfl
  have s6 := HS3.out.cell 6 rfl
  go_wp2_with fail
  clear s0 s1 s2 s3 s4 s5 s6
  generalize ((w.alloc (.cells #[.int .u8 1, .int .i64 th, .int .i64 tx, .int .i64 at_, .int .i64 v, .int .i64 x, .int .u8 why] 23)).alloc (.cells #[.int .u8 0, .int .i64 0, .int .i64 0, .int .i64 0, .int .i64 0, .int .i64 0, .int .u8 0] 23)).alloc (.cells #[.int .u8 1, .int .i64 th, .int .i64 0, .int .i64 0, .int .i64 0, .int .i64 0, .int .u8 0] 23) = W3 at HB3 HS3 HZ3 HD3 ⊢
  obtain ⟨W4, hW4⟩ : ∃ W, W = W3.drew := ⟨_, rfl⟩
  have HB3 : Hid (Below w.heap.size w W4) := hid (by rw [hW4]; exact ext_drew HB3.out)
  have HS3 : Hid (Blk W4 w.heap.size #[.int .u8 1, .int .i64 th, .int .i64 tx, .int .i64 at_, .int .i64 v, .int .i64 x, .int .u8 why] 23) := hid (by rw [hW4]; exact HS3.out.drew)
  have HZ3 : Hid (Blk W4 (w.heap.size + 1) #[.int .u8 0, .int .i64 0, .int .i64 0, .int .i64 0, .int .i64 0, .int .i64 0, .int .u8 0] 23) := hid (by rw [hW4]; exact HZ3.out.drew)
  have HD3 : Hid (Blk W4 (w.heap.size + 1 + 1) #[.int .u8 1, .int .i64 th, .int .i64 0, .int .i64 0, .int .i64 0, .int .i64 0, .int .u8 0] 23) := hid (by rw [hW4]; exact HD3.out.drew)
  have h00 : TwoSt W4 (w.heap.size + 1 + 1) 2 4 (.int .i64 tx) (.int .i64 v) 5 7 (fun _ => false) W3.drew := by rw [← hW4]; exact TwoSt.start
  clear hW4
  apply wp_region_valsJ [.pointer (some ⟨w.heap.size, 2, none⟩), .int .i64 tx, .pointer (some ⟨w.heap.size, 4, none⟩), .int .i64 v, .pointer (some ⟨w.heap.size + 1 + 1, 2, none⟩), undef, .pointer (some ⟨w.heap.size + 1 + 1, 4, none⟩), undef] (TwoSt W4 (w.heap.size + 1 + 1) 2 4 (.int .i64 tx) (.int .i64 v) 5 7)
  focus (simp [putAll, dstOf, Act.put, List.getD]; rfl)
  case hm => kernel_rfl
  case hd => kernel_rfl
  case hb => kernel_rfl
  case hdep => kernel_rfl
  case hsel => kernel_rfl
  case hng => kernel_rfl
  case hgv => kernel_rfl
  case hsz => kernel_rfl
  case hext => exact fun l l' w' h H => H.ext (k := 8) (by omega) (by omega) h
  case h0 => exact h00
  case hstep =>
    refine ⟨?_, ?_, ?_, ?_, ?_, ?_, ?_, ?_, trivial⟩
    · intro l w' hl hdp hJ
      rw [if_pos (by kernel_rfl)]
      intro K Qp hK
      have HJ := hid hJ
      clear hJ
      go_simp
      exact hK _ (HJ.out.other 0 (by omega) (by omega))
    · intro l w' hl hdp hJ
      rw [if_pos (by kernel_rfl)]
      intro K Qp hK
      have c0 := (hJ.blk (by omega) HS3.out).cell 2 rfl
      have HJ := hid hJ
      clear hJ
      go_simp
      exact hK _ (HJ.out.other 1 (by omega) (by omega))
    · intro l w' hl hdp hJ
      rw [if_pos (by kernel_rfl)]
      intro K Qp hK
      have HJ := hid hJ
      clear hJ
      go_simp
      exact hK _ (HJ.out.other 2 (by omega) (by omega))
    · intro l w' hl hdp hJ
      rw [if_pos (by kernel_rfl)]
      intro K Qp hK
      have c0 := (hJ.blk (by omega) HS3.out).cell 4 rfl
      have HJ := hid hJ
      clear hJ
      go_simp
      exact hK _ (HJ.out.other 3 (by omega) (by omega))
    · intro l w' hl hdp hJ
      rw [if_pos (by kernel_rfl)]
      intro K Qp hK
      have HJ := hid hJ
      clear hJ
      go_simp
      exact hK _ (HJ.out.other 4 (by omega) (by omega))
    · intro l w' hl hdp hJ
      rw [if_pos (by kernel_rfl)]
      intro K Qp hK
      obtain ⟨rfl, hn⟩ := hJ.first (by omega) hl
      have HN := hid hn
      have c0 := HD3.out.cell 2 rfl
      have f0 := HD3.out.free 2
      clear hJ hn
      go_simp
      exact hK _ HN.out
    · intro l w' hl hdp hJ
      rw [if_pos (by kernel_rfl)]
      intro K Qp hK
      have HJ := hid hJ
      clear hJ
      go_simp
      exact hK _ (HJ.out.other 6 (by omega) (by omega))
    · intro l w' hl hdp hJ
      rw [if_pos (by kernel_rfl)]
      intro K Qp hK
      obtain ⟨rfl, hn⟩ := hJ.second (by omega) (hdp 5 (by kernel_rfl)) hl
      have HN := hid hn
      have c0 := HD3.out.cell 4 rfl
      have f0 := HD3.out.free 4
      have c1 := (HD3.out.set 2 (.int .i64 tx)).cell 4 rfl
      have f1 := (HD3.out.set 2 (.int .i64 tx)).free 4
      clear hJ hn
      go_simp
      exact hK _ HN.out
  case hdone =>
    intro w' hJ
    obtain rfl := hJ.done
    have HZ4 := hid ((HZ3.out.set_other ⟨w.heap.size + 1 + 1, 2, none⟩ (.int .i64 tx) (by dsimp only; omega)).set_other ⟨w.heap.size + 1 + 1, 4, none⟩ (.int .i64 v) (by dsimp only; omega))
    have HD4 := hid ((HD3.out.set 2 (.int .i64 tx)).set 4 (.int .i64 v))
    have HB4 := hid ((HB3.out.setCell (p := ⟨w.heap.size + 1 + 1, 2, none⟩) (by dsimp only; omega) (.int .i64 tx)).setCell (p := ⟨w.heap.size + 1 + 1, 4, none⟩) (by dsimp only; omega) (.int .i64 v))
    simp only [List.setIfInBounds_toArray, List.set_cons_succ, List.set_cons_zero] at HD4
    clear HB3 HS3 HZ3 HD3 hJ h00
    generalize (W4.setCell ⟨w.heap.size + 1 + 1, 2, none⟩ (.int .i64 tx)).setCell ⟨w.heap.size + 1 + 1, 4, none⟩ (.int .i64 v) = W5 at HZ4 HD4 HB4 ⊢
    have y0 := HD4.out.cell 0 rfl
    have y1 := HD4.out.cell 1 rfl
    have y2 := HD4.out.cell 2 rfl
    have y3 := HD4.out.cell 3 rfl
    have y4 := HD4.out.cell 4 rfl
    have y5 := HD4.out.cell 5 rfl
    have y6 := HD4.out.cell 6 rfl
    have z0 := HZ4.out.free 0
    have z1 := HZ4.out.free 1
    have z2 := HZ4.out.free 2
    have z3 := HZ4.out.free 3
    have z4 := HZ4.out.free 4
    have z5 := HZ4.out.free 5
    have z6 := HZ4.out.free 6
    have t0 := HZ4.out.cell 0 rfl
    have t1 := HZ4.out.cell 1 rfl
    have t2 := HZ4.out.cell 2 rfl
    have t3 := HZ4.out.cell 3 rfl
    have t4 := HZ4.out.cell 4 rfl
    have t5 := HZ4.out.cell 5 rfl
    have t6 := HZ4.out.cell 6 rfl
    have HBZ := hid (low7 HB4.out (b := w.heap.size + 1) (by omega) (.int .u8 1) (.int .i64 th) (.int .i64 tx) (.int .i64 0) (.int .i64 v) (.int .i64 0) (.int .u8 0))
    have HRZ := hid (set7 HZ4.out (.int .u8 1) (.int .i64 th) (.int .i64 tx) (.int .i64 0) (.int .i64 v) (.int .i64 0) (.int .u8 0))
    have q0 := HRZ.out.cell 0 rfl
    have q1 := HRZ.out.cell 1 rfl
    have q2 := HRZ.out.cell 2 rfl
    have q3 := HRZ.out.cell 3 rfl
    have q4 := HRZ.out.cell 4 rfl
    have q5 := HRZ.out.cell 5 rfl
    have q6 := HRZ.out.cell 6 rfl
    clear HZ4 HD4 HB4 HRZ
    go_wp2_with fail
    exact bodyPost_ret (v := .agg #[.int .u8 1, .int .i64 th, .int .i64 tx, .int .i64 0, .int .i64 v, .int .i64 0, .int .u8 0]) (by simp [results, Tryd.results36, go_sem, q0, q1, q2, q3, q4, q5, q6]) rfl (by rw [HR.out]; exact ⟨rfl, HBZ.out⟩)
set_option maxRecDepth 100000 in
set_option maxHeartbeats 4000000 in
theorem rbare_2 (th tx at_ v x why : Int) (w : World) : Calls Tryd.prog 36 #[evA ⟨2, th, tx, at_, v, x, why⟩] w (RBareP ⟨2, th, tx, at_, v, x, why⟩ w) := by
  have HR : Hid ((.agg #[.int .u8 (bareE ⟨2, th, tx, at_, v, x, why⟩).kind, .int .i64 (bareE ⟨2, th, tx, at_, v, x, why⟩).th, .int .i64 (bareE ⟨2, th, tx, at_, v, x, why⟩).tx, .int .i64 (bareE ⟨2, th, tx, at_, v, x, why⟩).at_, .int .i64 (bareE ⟨2, th, tx, at_, v, x, why⟩).v, .int .i64 (bareE ⟨2, th, tx, at_, v, x, why⟩).x, .int .u8 (bareE ⟨2, th, tx, at_, v, x, why⟩).why] : Value) = .agg #[.int .u8 2, .int .i64 th, .int .i64 0, .int .i64 at_, .int .i64 v, .int .i64 0, .int .u8 0]) := hid (by rfl)
  unfold RBareP
  dsimp only [evA]
  have HB3 : Hid (Below w.heap.size w (((w.alloc (.cells #[.int .u8 2, .int .i64 th, .int .i64 tx, .int .i64 at_, .int .i64 v, .int .i64 x, .int .u8 why] 23)).alloc (.cells #[.int .u8 0, .int .i64 0, .int .i64 0, .int .i64 0, .int .i64 0, .int .i64 0, .int .u8 0] 23)).alloc (.cells #[.int .u8 2, .int .i64 th, .int .i64 0, .int .i64 0, .int .i64 0, .int .i64 0, .int .u8 0] 23))) := hid (ext_alloc (ext_alloc (ext_alloc (ext_refl _) _) _) _)
  have HS3 : Hid (Blk (((w.alloc (.cells #[.int .u8 2, .int .i64 th, .int .i64 tx, .int .i64 at_, .int .i64 v, .int .i64 x, .int .u8 why] 23)).alloc (.cells #[.int .u8 0, .int .i64 0, .int .i64 0, .int .i64 0, .int .i64 0, .int .i64 0, .int .u8 0] 23)).alloc (.cells #[.int .u8 2, .int .i64 th, .int .i64 0, .int .i64 0, .int .i64 0, .int .i64 0, .int .u8 0] 23)) w.heap.size #[.int .u8 2, .int .i64 th, .int .i64 tx, .int .i64 at_, .int .i64 v, .int .i64 x, .int .u8 why] 23) := hid (((Blk.new _ _ _).alloc _).alloc _)
  have HZ3 : Hid (Blk (((w.alloc (.cells #[.int .u8 2, .int .i64 th, .int .i64 tx, .int .i64 at_, .int .i64 v, .int .i64 x, .int .u8 why] 23)).alloc (.cells #[.int .u8 0, .int .i64 0, .int .i64 0, .int .i64 0, .int .i64 0, .int .i64 0, .int .u8 0] 23)).alloc (.cells #[.int .u8 2, .int .i64 th, .int .i64 0, .int .i64 0, .int .i64 0, .int .i64 0, .int .u8 0] 23)) (w.heap.size + 1) #[.int .u8 0, .int .i64 0, .int .i64 0, .int .i64 0, .int .i64 0, .int .i64 0, .int .u8 0] 23) := hid ((Blk.new' _ _ _ (Array.size_push ..).symm).alloc _)
  have HD3 : Hid (Blk (((w.alloc (.cells #[.int .u8 2, .int .i64 th, .int .i64 tx, .int .i64 at_, .int .i64 v, .int .i64 x, .int .u8 why] 23)).alloc (.cells #[.int .u8 0, .int .i64 0, .int .i64 0, .int .i64 0, .int .i64 0, .int .i64 0, .int .u8 0] 23)).alloc (.cells #[.int .u8 2, .int .i64 th, .int .i64 0, .int .i64 0, .int .i64 0, .int .i64 0, .int .u8 0] 23)) (w.heap.size + 1 + 1) #[.int .u8 2, .int .i64 th, .int .i64 0, .int .i64 0, .int .i64 0, .int .i64 0, .int .u8 0] 23) := hid (Blk.new' _ _ _ (size2 _ _ _))
  go_enter Tryd.func36, Tryd.ntmps36
  have s0 := HS3.out.cell 0 rfl
  have s1 := HS3.out.cell 1 rfl
  have s2 := HS3.out.cell 2 rfl
  have s3 := HS3.out.cell 3 rfl
  have s4 := HS3.out.cell 4 rfl
  have s5 := HS3.out.cell 5 rfl
  have s6 := HS3.out.cell 6 rfl
  go_wp2_with fail
  clear s0 s1 s2 s3 s4 s5 s6
  generalize ((w.alloc (.cells #[.int .u8 2, .int .i64 th, .int .i64 tx, .int .i64 at_, .int .i64 v, .int .i64 x, .int .u8 why] 23)).alloc (.cells #[.int .u8 0, .int .i64 0, .int .i64 0, .int .i64 0, .int .i64 0, .int .i64 0, .int .u8 0] 23)).alloc (.cells #[.int .u8 2, .int .i64 th, .int .i64 0, .int .i64 0, .int .i64 0, .int .i64 0, .int .u8 0] 23) = W3 at HB3 HS3 HZ3 HD3 ⊢
  obtain ⟨W4, hW4⟩ : ∃ W, W = W3.drew := ⟨_, rfl⟩
  have HB3 : Hid (Below w.heap.size w W4) := hid (by rw [hW4]; exact ext_drew HB3.out)
  have HS3 : Hid (Blk W4 w.heap.size #[.int .u8 2, .int .i64 th, .int .i64 tx, .int .i64 at_, .int .i64 v, .int .i64 x, .int .u8 why] 23) := hid (by rw [hW4]; exact HS3.out.drew)
  have HZ3 : Hid (Blk W4 (w.heap.size + 1) #[.int .u8 0, .int .i64 0, .int .i64 0, .int .i64 0, .int .i64 0, .int .i64 0, .int .u8 0] 23) := hid (by rw [hW4]; exact HZ3.out.drew)
  have HD3 : Hid (Blk W4 (w.heap.size + 1 + 1) #[.int .u8 2, .int .i64 th, .int .i64 0, .int .i64 0, .int .i64 0, .int .i64 0, .int .u8 0] 23) := hid (by rw [hW4]; exact HD3.out.drew)
  have h00 : TwoSt W4 (w.heap.size + 1 + 1) 3 4 (.int .i64 at_) (.int .i64 v) 5 7 (fun _ => false) W3.drew := by rw [← hW4]; exact TwoSt.start
  clear hW4
  apply wp_region_valsJ [.pointer (some ⟨w.heap.size, 3, none⟩), .int .i64 at_, .pointer (some ⟨w.heap.size, 4, none⟩), .int .i64 v, .pointer (some ⟨w.heap.size + 1 + 1, 3, none⟩), undef, .pointer (some ⟨w.heap.size + 1 + 1, 4, none⟩), undef] (TwoSt W4 (w.heap.size + 1 + 1) 3 4 (.int .i64 at_) (.int .i64 v) 5 7)
  focus (simp [putAll, dstOf, Act.put, List.getD]; rfl)
  case hm => kernel_rfl
  case hd => kernel_rfl
  case hb => kernel_rfl
  case hdep => kernel_rfl
  case hsel => kernel_rfl
  case hng => kernel_rfl
  case hgv => kernel_rfl
  case hsz => kernel_rfl
  case hext => exact fun l l' w' h H => H.ext (k := 8) (by omega) (by omega) h
  case h0 => exact h00
  case hstep =>
    refine ⟨?_, ?_, ?_, ?_, ?_, ?_, ?_, ?_, trivial⟩
    · intro l w' hl hdp hJ
      rw [if_pos (by kernel_rfl)]
      intro K Qp hK
      have HJ := hid hJ
      clear hJ
      go_simp
      exact hK _ (HJ.out.other 0 (by omega) (by omega))
    · intro l w' hl hdp hJ
      rw [if_pos (by kernel_rfl)]
      intro K Qp hK
      have c0 := (hJ.blk (by omega) HS3.out).cell 3 rfl
      have HJ := hid hJ
      clear hJ
      go_simp
      exact hK _ (HJ.out.other 1 (by omega) (by omega))
    · intro l w' hl hdp hJ
      rw [if_pos (by kernel_rfl)]
      intro K Qp hK
      have HJ := hid hJ
      clear hJ
      go_simp
      exact hK _ (HJ.out.other 2 (by omega) (by omega))
    · intro l w' hl hdp hJ
      rw [if_pos (by kernel_rfl)]
      intro K Qp hK
      have c0 := (hJ.blk (by omega) HS3.out).cell 4 rfl
      have HJ := hid hJ
      clear hJ
      go_simp
      exact hK _ (HJ.out.other 3 (by omega) (by omega))
    · intro l w' hl hdp hJ
      rw [if_pos (by kernel_rfl)]
      intro K Qp hK
      have HJ := hid hJ
      clear hJ
      go_simp
      exact hK _ (HJ.out.other 4 (by omega) (by omega))
    · intro l w' hl hdp hJ
      rw [if_pos (by kernel_rfl)]
      intro K Qp hK
      obtain ⟨rfl, hn⟩ := hJ.first (by omega) hl
      have HN := hid hn
      have c0 := HD3.out.cell 3 rfl
      have f0 := HD3.out.free 3
      clear hJ hn
      go_simp
      exact hK _ HN.out
    · intro l w' hl hdp hJ
      rw [if_pos (by kernel_rfl)]
      intro K Qp hK
      have HJ := hid hJ
      clear hJ
      go_simp
      exact hK _ (HJ.out.other 6 (by omega) (by omega))
    · intro l w' hl hdp hJ
      rw [if_pos (by kernel_rfl)]
      intro K Qp hK
      obtain ⟨rfl, hn⟩ := hJ.second (by omega) (hdp 5 (by kernel_rfl)) hl
      have HN := hid hn
      have c0 := HD3.out.cell 4 rfl
      have f0 := HD3.out.free 4
      have c1 := (HD3.out.set 3 (.int .i64 at_)).cell 4 rfl
      have f1 := (HD3.out.set 3 (.int .i64 at_)).free 4
      clear hJ hn
      go_simp
      exact hK _ HN.out
  case hdone =>
    intro w' hJ
    obtain rfl := hJ.done
    have HZ4 := hid ((HZ3.out.set_other ⟨w.heap.size + 1 + 1, 3, none⟩ (.int .i64 at_) (by dsimp only; omega)).set_other ⟨w.heap.size + 1 + 1, 4, none⟩ (.int .i64 v) (by dsimp only; omega))
    have HD4 := hid ((HD3.out.set 3 (.int .i64 at_)).set 4 (.int .i64 v))
    have HB4 := hid ((HB3.out.setCell (p := ⟨w.heap.size + 1 + 1, 3, none⟩) (by dsimp only; omega) (.int .i64 at_)).setCell (p := ⟨w.heap.size + 1 + 1, 4, none⟩) (by dsimp only; omega) (.int .i64 v))
    simp only [List.setIfInBounds_toArray, List.set_cons_succ, List.set_cons_zero] at HD4
    clear HB3 HS3 HZ3 HD3 hJ h00
    generalize (W4.setCell ⟨w.heap.size + 1 + 1, 3, none⟩ (.int .i64 at_)).setCell ⟨w.heap.size + 1 + 1, 4, none⟩ (.int .i64 v) = W5 at HZ4 HD4 HB4 ⊢
    have y0 := HD4.out.cell 0 rfl
    have y1 := HD4.out.cell 1 rfl
    have y2 := HD4.out.cell 2 rfl
    have y3 := HD4.out.cell 3 rfl
    have y4 := HD4.out.cell 4 rfl
    have y5 := HD4.out.cell 5 rfl
    have y6 := HD4.out.cell 6 rfl
    have z0 := HZ4.out.free 0
    have z1 := HZ4.out.free 1
    have z2 := HZ4.out.free 2
    have z3 := HZ4.out.free 3
    have z4 := HZ4.out.free 4
    have z5 := HZ4.out.free 5
    have z6 := HZ4.out.free 6
    have t0 := HZ4.out.cell 0 rfl
    have t1 := HZ4.out.cell 1 rfl
    have t2 := HZ4.out.cell 2 rfl
    have t3 := HZ4.out.cell 3 rfl
    have t4 := HZ4.out.cell 4 rfl
    have t5 := HZ4.out.cell 5 rfl
    have t6 := HZ4.out.cell 6 rfl
    have HBZ := hid (low7 HB4.out (b := w.heap.size + 1) (by omega) (.int .u8 2) (.int .i64 th) (.int .i64 0) (.int .i64 at_) (.int .i64 v) (.int .i64 0) (.int .u8 0))
    have HRZ := hid (set7 HZ4.out (.int .u8 2) (.int .i64 th) (.int .i64 0) (.int .i64 at_) (.int .i64 v) (.int .i64 0) (.int .u8 0))
    have q0 := HRZ.out.cell 0 rfl
    have q1 := HRZ.out.cell 1 rfl
    have q2 := HRZ.out.cell 2 rfl
    have q3 := HRZ.out.cell 3 rfl
    have q4 := HRZ.out.cell 4 rfl
    have q5 := HRZ.out.cell 5 rfl
    have q6 := HRZ.out.cell 6 rfl
    clear HZ4 HD4 HB4 HRZ
    go_wp2_with fail
    exact bodyPost_ret (v := .agg #[.int .u8 2, .int .i64 th, .int .i64 0, .int .i64 at_, .int .i64 v, .int .i64 0, .int .u8 0]) (by simp [results, Tryd.results36, go_sem, q0, q1, q2, q3, q4, q5, q6]) rfl (by rw [HR.out]; exact ⟨rfl, HBZ.out⟩)
set_option maxRecDepth 100000 in
set_option maxHeartbeats 4000000 in
theorem rbare_3 (th tx at_ v x why : Int) (w : World) : Calls Tryd.prog 36 #[evA ⟨3, th, tx, at_, v, x, why⟩] w (RBareP ⟨3, th, tx, at_, v, x, why⟩ w) := by
  have HR : Hid ((.agg #[.int .u8 (bareE ⟨3, th, tx, at_, v, x, why⟩).kind, .int .i64 (bareE ⟨3, th, tx, at_, v, x, why⟩).th, .int .i64 (bareE ⟨3, th, tx, at_, v, x, why⟩).tx, .int .i64 (bareE ⟨3, th, tx, at_, v, x, why⟩).at_, .int .i64 (bareE ⟨3, th, tx, at_, v, x, why⟩).v, .int .i64 (bareE ⟨3, th, tx, at_, v, x, why⟩).x, .int .u8 (bareE ⟨3, th, tx, at_, v, x, why⟩).why] : Value) = .agg #[.int .u8 3, .int .i64 th, .int .i64 0, .int .i64 at_, .int .i64 0, .int .i64 x, .int .u8 0]) := hid (by rfl)
  unfold RBareP
  dsimp only [evA]
  have HB3 : Hid (Below w.heap.size w (((w.alloc (.cells #[.int .u8 3, .int .i64 th, .int .i64 tx, .int .i64 at_, .int .i64 v, .int .i64 x, .int .u8 why] 23)).alloc (.cells #[.int .u8 0, .int .i64 0, .int .i64 0, .int .i64 0, .int .i64 0, .int .i64 0, .int .u8 0] 23)).alloc (.cells #[.int .u8 3, .int .i64 th, .int .i64 0, .int .i64 0, .int .i64 0, .int .i64 0, .int .u8 0] 23))) := hid (ext_alloc (ext_alloc (ext_alloc (ext_refl _) _) _) _)
  have HS3 : Hid (Blk (((w.alloc (.cells #[.int .u8 3, .int .i64 th, .int .i64 tx, .int .i64 at_, .int .i64 v, .int .i64 x, .int .u8 why] 23)).alloc (.cells #[.int .u8 0, .int .i64 0, .int .i64 0, .int .i64 0, .int .i64 0, .int .i64 0, .int .u8 0] 23)).alloc (.cells #[.int .u8 3, .int .i64 th, .int .i64 0, .int .i64 0, .int .i64 0, .int .i64 0, .int .u8 0] 23)) w.heap.size #[.int .u8 3, .int .i64 th, .int .i64 tx, .int .i64 at_, .int .i64 v, .int .i64 x, .int .u8 why] 23) := hid (((Blk.new _ _ _).alloc _).alloc _)
  have HZ3 : Hid (Blk (((w.alloc (.cells #[.int .u8 3, .int .i64 th, .int .i64 tx, .int .i64 at_, .int .i64 v, .int .i64 x, .int .u8 why] 23)).alloc (.cells #[.int .u8 0, .int .i64 0, .int .i64 0, .int .i64 0, .int .i64 0, .int .i64 0, .int .u8 0] 23)).alloc (.cells #[.int .u8 3, .int .i64 th, .int .i64 0, .int .i64 0, .int .i64 0, .int .i64 0, .int .u8 0] 23)) (w.heap.size + 1) #[.int .u8 0, .int .i64 0, .int .i64 0, .int .i64 0, .int .i64 0, .int .i64 0, .int .u8 0] 23) := hid ((Blk.new' _ _ _ (Array.size_push ..).symm).alloc _)
  have HD3 : Hid (Blk (((w.alloc (.cells #[.int .u8 3, .int .i64 th, .int .i64 tx, .int .i64 at_, .int .i64 v, .int .i64 x, .int .u8 why] 23)).alloc (.cells #[.int .u8 0, .int .i64 0, .int .i64 0, .int .i64 0, .int .i64 0, .int .i64 0, .int .u8 0] 23)).alloc (.cells #[.int .u8 3, .int .i64 th, .int .i64 0, .int .i64 0, .int .i64 0, .int .i64 0, .int .u8 0] 23)) (w.heap.size + 1 + 1) #[.int .u8 3, .int .i64 th, .int .i64 0, .int .i64 0, .int .i64 0, .int .i64 0, .int .u8 0] 23) := hid (Blk.new' _ _ _ (size2 _ _ _))
  go_enter Tryd.func36, Tryd.ntmps36
  have s0 := HS3.out.cell 0 rfl
  have s1 := HS3.out.cell 1 rfl
  have s2 := HS3.out.cell 2 rfl
  have s3 := HS3.out.cell 3 rfl
  have s4 := HS3.out.cell 4 rfl
  have s5 := HS3.out.cell 5 rfl
  have s6 := HS3.out.cell 6 rfl
  go_wp2_with fail
  clear s0 s1 s2 s3 s4 s5 s6
  generalize ((w.alloc (.cells #[.int .u8 3, .int .i64 th, .int .i64 tx, .int .i64 at_, .int .i64 v, .int .i64 x, .int .u8 why] 23)).alloc (.cells #[.int .u8 0, .int .i64 0, .int .i64 0, .int .i64 0, .int .i64 0, .int .i64 0, .int .u8 0] 23)).alloc (.cells #[.int .u8 3, .int .i64 th, .int .i64 0, .int .i64 0, .int .i64 0, .int .i64 0, .int .u8 0] 23) = W3 at HB3 HS3 HZ3 HD3 ⊢
  obtain ⟨W4, hW4⟩ : ∃ W, W = W3.drew := ⟨_, rfl⟩
  have HB3 : Hid (Below w.heap.size w W4) := hid (by rw [hW4]; exact ext_drew HB3.out)
  have HS3 : Hid (Blk W4 w.heap.size #[.int .u8 3, .int .i64 th, .int .i64 tx, .int .i64 at_, .int .i64 v, .int .i64 x, .int .u8 why] 23) := hid (by rw [hW4]; exact HS3.out.drew)
  have HZ3 : Hid (Blk W4 (w.heap.size + 1) #[.int .u8 0, .int .i64 0, .int .i64 0, .int .i64 0, .int .i64 0, .int .i64 0, .int .u8 0] 23) := hid (by rw [hW4]; exact HZ3.out.drew)
  have HD3 : Hid (Blk W4 (w.heap.size + 1 + 1) #[.int .u8 3, .int .i64 th, .int .i64 0, .int .i64 0, .int .i64 0, .int .i64 0, .int .u8 0] 23) := hid (by rw [hW4]; exact HD3.out.drew)
  have h00 : TwoSt W4 (w.heap.size + 1 + 1) 3 5 (.int .i64 at_) (.int .i64 x) 5 7 (fun _ => false) W3.drew := by rw [← hW4]; exact TwoSt.start
  clear hW4
  apply wp_region_valsJ [.pointer (some ⟨w.heap.size, 3, none⟩), .int .i64 at_, .pointer (some ⟨w.heap.size, 5, none⟩), .int .i64 x, .pointer (some ⟨w.heap.size + 1 + 1, 3, none⟩), undef, .pointer (some ⟨w.heap.size + 1 + 1, 5, none⟩), undef] (TwoSt W4 (w.heap.size + 1 + 1) 3 5 (.int .i64 at_) (.int .i64 x) 5 7)
  focus (simp [putAll, dstOf, Act.put, List.getD]; rfl)
  case hm => kernel_rfl
  case hd => kernel_rfl
  case hb => kernel_rfl
  case hdep => kernel_rfl
  case hsel => kernel_rfl
  case hng => kernel_rfl
  case hgv => kernel_rfl
  case hsz => kernel_rfl
  case hext => exact fun l l' w' h H => H.ext (k := 8) (by omega) (by omega) h
  case h0 => exact h00
  case hstep =>
    refine ⟨?_, ?_, ?_, ?_, ?_, ?_, ?_, ?_, trivial⟩
    · intro l w' hl hdp hJ
      rw [if_pos (by kernel_rfl)]
      intro K Qp hK
      have HJ := hid hJ
      clear hJ
      go_simp
      exact hK _ (HJ.out.other 0 (by omega) (by omega))
    · intro l w' hl hdp hJ
      rw [if_pos (by kernel_rfl)]
      intro K Qp hK
      have c0 := (hJ.blk (by omega) HS3.out).cell 3 rfl
      have HJ := hid hJ
      clear hJ
      go_simp
      exact hK _ (HJ.out.other 1 (by omega) (by omega))
    · intro l w' hl hdp hJ
      rw [if_pos (by kernel_rfl)]
      intro K Qp hK
      have HJ := hid hJ
      clear hJ
      go_simp
      exact hK _ (HJ.out.other 2 (by omega) (by omega))
    · intro l w' hl hdp hJ
      rw [if_pos (by kernel_rfl)]
      intro K Qp hK
      have c0 := (hJ.blk (by omega) HS3.out).cell 5 rfl
      have HJ := hid hJ
      clear hJ
      go_simp
      exact hK _ (HJ.out.other 3 (by omega) (by omega))
    · intro l w' hl hdp hJ
      rw [if_pos (by kernel_rfl)]
      intro K Qp hK
      have HJ := hid hJ
      clear hJ
      go_simp
      exact hK _ (HJ.out.other 4 (by omega) (by omega))
    · intro l w' hl hdp hJ
      rw [if_pos (by kernel_rfl)]
      intro K Qp hK
      obtain ⟨rfl, hn⟩ := hJ.first (by omega) hl
      have HN := hid hn
      have c0 := HD3.out.cell 3 rfl
      have f0 := HD3.out.free 3
      clear hJ hn
      go_simp
      exact hK _ HN.out
    · intro l w' hl hdp hJ
      rw [if_pos (by kernel_rfl)]
      intro K Qp hK
      have HJ := hid hJ
      clear hJ
      go_simp
      exact hK _ (HJ.out.other 6 (by omega) (by omega))
    · intro l w' hl hdp hJ
      rw [if_pos (by kernel_rfl)]
      intro K Qp hK
      obtain ⟨rfl, hn⟩ := hJ.second (by omega) (hdp 5 (by kernel_rfl)) hl
      have HN := hid hn
      have c0 := HD3.out.cell 5 rfl
      have f0 := HD3.out.free 5
      have c1 := (HD3.out.set 3 (.int .i64 at_)).cell 5 rfl
      have f1 := (HD3.out.set 3 (.int .i64 at_)).free 5
      clear hJ hn
      go_simp
      exact hK _ HN.out
  case hdone =>
    intro w' hJ
    obtain rfl := hJ.done
    have HZ4 := hid ((HZ3.out.set_other ⟨w.heap.size + 1 + 1, 3, none⟩ (.int .i64 at_) (by dsimp only; omega)).set_other ⟨w.heap.size + 1 + 1, 5, none⟩ (.int .i64 x) (by dsimp only; omega))
    have HD4 := hid ((HD3.out.set 3 (.int .i64 at_)).set 5 (.int .i64 x))
    have HB4 := hid ((HB3.out.setCell (p := ⟨w.heap.size + 1 + 1, 3, none⟩) (by dsimp only; omega) (.int .i64 at_)).setCell (p := ⟨w.heap.size + 1 + 1, 5, none⟩) (by dsimp only; omega) (.int .i64 x))
    simp only [List.setIfInBounds_toArray, List.set_cons_succ, List.set_cons_zero] at HD4
    clear HB3 HS3 HZ3 HD3 hJ h00
    generalize (W4.setCell ⟨w.heap.size + 1 + 1, 3, none⟩ (.int .i64 at_)).setCell ⟨w.heap.size + 1 + 1, 5, none⟩ (.int .i64 x) = W5 at HZ4 HD4 HB4 ⊢
    have y0 := HD4.out.cell 0 rfl
    have y1 := HD4.out.cell 1 rfl
    have y2 := HD4.out.cell 2 rfl
    have y3 := HD4.out.cell 3 rfl
    have y4 := HD4.out.cell 4 rfl
    have y5 := HD4.out.cell 5 rfl
    have y6 := HD4.out.cell 6 rfl
    have z0 := HZ4.out.free 0
    have z1 := HZ4.out.free 1
    have z2 := HZ4.out.free 2
    have z3 := HZ4.out.free 3
    have z4 := HZ4.out.free 4
    have z5 := HZ4.out.free 5
    have z6 := HZ4.out.free 6
    have t0 := HZ4.out.cell 0 rfl
    have t1 := HZ4.out.cell 1 rfl
    have t2 := HZ4.out.cell 2 rfl
    have t3 := HZ4.out.cell 3 rfl
    have t4 := HZ4.out.cell 4 rfl
    have t5 := HZ4.out.cell 5 rfl
    have t6 := HZ4.out.cell 6 rfl
    have HBZ := hid (low7 HB4.out (b := w.heap.size + 1) (by omega) (.int .u8 3) (.int .i64 th) (.int .i64 0) (.int .i64 at_) (.int .i64 0) (.int .i64 x) (.int .u8 0))
    have HRZ := hid (set7 HZ4.out (.int .u8 3) (.int .i64 th) (.int .i64 0) (.int .i64 at_) (.int .i64 0) (.int .i64 x) (.int .u8 0))
    have q0 := HRZ.out.cell 0 rfl
    have q1 := HRZ.out.cell 1 rfl
    have q2 := HRZ.out.cell 2 rfl
    have q3 := HRZ.out.cell 3 rfl
    have q4 := HRZ.out.cell 4 rfl
    have q5 := HRZ.out.cell 5 rfl
    have q6 := HRZ.out.cell 6 rfl
    clear HZ4 HD4 HB4 HRZ
    go_wp2_with fail
    exact bodyPost_ret (v := .agg #[.int .u8 3, .int .i64 th, .int .i64 0, .int .i64 at_, .int .i64 0, .int .i64 x, .int .u8 0]) (by simp [results, Tryd.results36, go_sem, q0, q1, q2, q3, q4, q5, q6]) rfl (by rw [HR.out]; exact ⟨rfl, HBZ.out⟩)
set_option maxRecDepth 100000 in
set_option maxHeartbeats 4000000 in
theorem rbare_8 (th tx at_ v x why : Int) (w : World) : Calls Tryd.prog 36 #[evA ⟨8, th, tx, at_, v, x, why⟩] w (RBareP ⟨8, th, tx, at_, v, x, why⟩ w) := by
  have HR : Hid ((.agg #[.int .u8 (bareE ⟨8, th, tx, at_, v, x, why⟩).kind, .int .i64 (bareE ⟨8, th, tx, at_, v, x, why⟩).th, .int .i64 (bareE ⟨8, th, tx, at_, v, x, why⟩).tx, .int .i64 (bareE ⟨8, th, tx, at_, v, x, why⟩).at_, .int .i64 (bareE ⟨8, th, tx, at_, v, x, why⟩).v, .int .i64 (bareE ⟨8, th, tx, at_, v, x, why⟩).x, .int .u8 (bareE ⟨8, th, tx, at_, v, x, why⟩).why] : Value) = .agg #[.int .u8 8, .int .i64 th, .int .i64 0, .int .i64 at_, .int .i64 0, .int .i64 x, .int .u8 0]) := hid (by rfl)
  unfold RBareP
  dsimp only [evA]
  have HB3 : Hid (Below w.heap.size w (((w.alloc (.cells #[.int .u8 8, .int .i64 th, .int .i64 tx, .int .i64 at_, .int .i64 v, .int .i64 x, .int .u8 why] 23)).alloc (.cells #[.int .u8 0, .int .i64 0, .int .i64 0, .int .i64 0, .int .i64 0, .int .i64 0, .int .u8 0] 23)).alloc (.cells #[.int .u8 8, .int .i64 th, .int .i64 0, .int .i64 0, .int .i64 0, .int .i64 0, .int .u8 0] 23))) := hid (ext_alloc (ext_alloc (ext_alloc (ext_refl _) _) _) _)
  have HS3 : Hid (Blk (((w.alloc (.cells #[.int .u8 8, .int .i64 th, .int .i64 tx, .int .i64 at_, .int .i64 v, .int .i64 x, .int .u8 why] 23)).alloc (.cells #[.int .u8 0, .int .i64 0, .int .i64 0, .int .i64 0, .int .i64 0, .int .i64 0, .int .u8 0] 23)).alloc (.cells #[.int .u8 8, .int .i64 th, .int .i64 0, .int .i64 0, .int .i64 0, .int .i64 0, .int .u8 0] 23)) w.heap.size #[.int .u8 8, .int .i64 th, .int .i64 tx, .int .i64 at_, .int .i64 v, .int .i64 x, .int .u8 why] 23) := hid (((Blk.new _ _ _).alloc _).alloc _)
  have HZ3 : Hid (Blk (((w.alloc (.cells #[.int .u8 8, .int .i64 th, .int .i64 tx, .int .i64 at_, .int .i64 v, .int .i64 x, .int .u8 why] 23)).alloc (.cells #[.int .u8 0, .int .i64 0, .int .i64 0, .int .i64 0, .int .i64 0, .int .i64 0, .int .u8 0] 23)).alloc (.cells #[.int .u8 8, .int .i64 th, .int .i64 0, .int .i64 0, .int .i64 0, .int .i64 0, .int .u8 0] 23)) (w.heap.size + 1) #[.int .u8 0, .int .i64 0, .int .i64 0, .int .i64 0, .int .i64 0, .int .i64 0, .int .u8 0] 23) := hid ((Blk.new' _ _ _ (Array.size_push ..).symm).alloc _)
  have HD3 : Hid (Blk (((w.alloc (.cells #[.int .u8 8, .int .i64 th, .int .i64 tx, .int .i64 at_, .int .i64 v, .int .i64 x, .int .u8 why] 23)).alloc (.cells #[.int .u8 0, .int .i64 0, .int .i64 0, .int .i64 0, .int .i64 0, .int .i64 0, .int .u8 0] 23)).alloc (.cells #[.int .u8 8, .int .i64 th, .int .i64 0, .int .i64 0, .int .i64 0, .int .i64 0, .int .u8 0] 23)) (w.heap.size + 1 + 1) #[.int .u8 8, .int .i64 th, .int .i64 0, .int .i64 0, .int .i64 0, .int .i64 0, .int .u8 0] 23) := hid (Blk.new' _ _ _ (size2 _ _ _))
  go_enter Tryd.func36, Tryd.ntmps36
  have s0 := HS3.out.cell 0 rfl
  have s1 := HS3.out.cell 1 rfl
  have s2 := HS3.out.cell 2 rfl
  have s3 := HS3.out.cell 3 rfl
  have s4 := HS3.out.cell 4 rfl
  have s5 := HS3.out.cell 5 rfl
  have s6 := HS3.out.cell 6 rfl
  go_wp2_with fail
  clear s0 s1 s2 s3 s4 s5 s6
  generalize ((w.alloc (.cells #[.int .u8 8, .int .i64 th, .int .i64 tx, .int .i64 at_, .int .i64 v, .int .i64 x, .int .u8 why] 23)).alloc (.cells #[.int .u8 0, .int .i64 0, .int .i64 0, .int .i64 0, .int .i64 0, .int .i64 0, .int .u8 0] 23)).alloc (.cells #[.int .u8 8, .int .i64 th, .int .i64 0, .int .i64 0, .int .i64 0, .int .i64 0, .int .u8 0] 23) = W3 at HB3 HS3 HZ3 HD3 ⊢
  obtain ⟨W4, hW4⟩ : ∃ W, W = W3.drew := ⟨_, rfl⟩
  have HB3 : Hid (Below w.heap.size w W4) := hid (by rw [hW4]; exact ext_drew HB3.out)
  have HS3 : Hid (Blk W4 w.heap.size #[.int .u8 8, .int .i64 th, .int .i64 tx, .int .i64 at_, .int .i64 v, .int .i64 x, .int .u8 why] 23) := hid (by rw [hW4]; exact HS3.out.drew)
  have HZ3 : Hid (Blk W4 (w.heap.size + 1) #[.int .u8 0, .int .i64 0, .int .i64 0, .int .i64 0, .int .i64 0, .int .i64 0, .int .u8 0] 23) := hid (by rw [hW4]; exact HZ3.out.drew)
  have HD3 : Hid (Blk W4 (w.heap.size + 1 + 1) #[.int .u8 8, .int .i64 th, .int .i64 0, .int .i64 0, .int .i64 0, .int .i64 0, .int .u8 0] 23) := hid (by rw [hW4]; exact HD3.out.drew)
  have h00 : TwoSt W4 (w.heap.size + 1 + 1) 3 5 (.int .i64 at_) (.int .i64 x) 5 7 (fun _ => false) W3.drew := by rw [← hW4]; exact TwoSt.start
  clear hW4
  apply wp_region_valsJ [.pointer (some ⟨w.heap.size, 3, none⟩), .int .i64 at_, .pointer (some ⟨w.heap.size, 5, none⟩), .int .i64 x, .pointer (some ⟨w.heap.size + 1 + 1, 3, none⟩), undef, .pointer (some ⟨w.heap.size + 1 + 1, 5, none⟩), undef] (TwoSt W4 (w.heap.size + 1 + 1) 3 5 (.int .i64 at_) (.int .i64 x) 5 7)
  focus (simp [putAll, dstOf, Act.put, List.getD]; rfl)
  case hm => kernel_rfl
  case hd => kernel_rfl
  case hb => kernel_rfl
  case hdep => kernel_rfl
  case hsel => kernel_rfl
  case hng => kernel_rfl
  case hgv => kernel_rfl
  case hsz => kernel_rfl
  case hext => exact fun l l' w' h H => H.ext (k := 8) (by omega) (by omega) h
  case h0 => exact h00
  case hstep =>
    refine ⟨?_, ?_, ?_, ?_, ?_, ?_, ?_, ?_, trivial⟩
    · intro l w' hl hdp hJ
      rw [if_pos (by kernel_rfl)]
      intro K Qp hK
      have HJ := hid hJ
      clear hJ
      go_simp
      exact hK _ (HJ.out.other 0 (by omega) (by omega))
    · intro l w' hl hdp hJ
      rw [if_pos (by kernel_rfl)]
      intro K Qp hK
      have c0 := (hJ.blk (by omega) HS3.out).cell 3 rfl
      have HJ := hid hJ
      clear hJ
      go_simp
      exact hK _ (HJ.out.other 1 (by omega) (by omega))
    · intro l w' hl hdp hJ
      rw [if_pos (by kernel_rfl)]
      intro K Qp hK
      have HJ := hid hJ
      clear hJ
      go_simp
      exact hK _ (HJ.out.other 2 (by omega) (by omega))
    · intro l w' hl hdp hJ
      rw [if_pos (by kernel_rfl)]
      intro K Qp hK
      have c0 := (hJ.blk (by omega) HS3.out).cell 5 rfl
      have HJ := hid hJ
      clear hJ
      go_simp
      exact hK _ (HJ.out.other 3 (by omega) (by omega))
    · intro l w' hl hdp hJ
      rw [if_pos (by kernel_rfl)]
      intro K Qp hK
      have HJ := hid hJ
      clear hJ
      go_simp
      exact hK _ (HJ.out.other 4 (by omega) (by omega))
    · intro l w' hl hdp hJ
      rw [if_pos (by kernel_rfl)]
      intro K Qp hK
      obtain ⟨rfl, hn⟩ := hJ.first (by omega) hl
      have HN := hid hn
      have c0 := HD3.out.cell 3 rfl
      have f0 := HD3.out.free 3
      clear hJ hn
      go_simp
      exact hK _ HN.out
    · intro l w' hl hdp hJ
      rw [if_pos (by kernel_rfl)]
      intro K Qp hK
      have HJ := hid hJ
      clear hJ
      go_simp
      exact hK _ (HJ.out.other 6 (by omega) (by omega))
    · intro l w' hl hdp hJ
      rw [if_pos (by kernel_rfl)]
      intro K Qp hK
      obtain ⟨rfl, hn⟩ := hJ.second (by omega) (hdp 5 (by kernel_rfl)) hl
      have HN := hid hn
      have c0 := HD3.out.cell 5 rfl
      have f0 := HD3.out.free 5
      have c1 := (HD3.out.set 3 (.int .i64 at_)).cell 5 rfl
      have f1 := (HD3.out.set 3 (.int .i64 at_)).free 5
      clear hJ hn
      go_simp
      exact hK _ HN.out
  case hdone =>
    intro w' hJ
    obtain rfl := hJ.done
    have HZ4 := hid ((HZ3.out.set_other ⟨w.heap.size + 1 + 1, 3, none⟩ (.int .i64 at_) (by dsimp only; omega)).set_other ⟨w.heap.size + 1 + 1, 5, none⟩ (.int .i64 x) (by dsimp only; omega))
    have HD4 := hid ((HD3.out.set 3 (.int .i64 at_)).set 5 (.int .i64 x))
    have HB4 := hid ((HB3.out.setCell (p := ⟨w.heap.size + 1 + 1, 3, none⟩) (by dsimp only; omega) (.int .i64 at_)).setCell (p := ⟨w.heap.size + 1 + 1, 5, none⟩) (by dsimp only; omega) (.int .i64 x))
    simp only [List.setIfInBounds_toArray, List.set_cons_succ, List.set_cons_zero] at HD4
    clear HB3 HS3 HZ3 HD3 hJ h00
    generalize (W4.setCell ⟨w.heap.size + 1 + 1, 3, none⟩ (.int .i64 at_)).setCell ⟨w.heap.size + 1 + 1, 5, none⟩ (.int .i64 x) = W5 at HZ4 HD4 HB4 ⊢
    have y0 := HD4.out.cell 0 rfl
    have y1 := HD4.out.cell 1 rfl
    have y2 := HD4.out.cell 2 rfl
    have y3 := HD4.out.cell 3 rfl
    have y4 := HD4.out.cell 4 rfl
    have y5 := HD4.out.cell 5 rfl
    have y6 := HD4.out.cell 6 rfl
    have z0 := HZ4.out.free 0
    have z1 := HZ4.out.free 1
    have z2 := HZ4.out.free 2
    have z3 := HZ4.out.free 3
    have z4 := HZ4.out.free 4
    have z5 := HZ4.out.free 5
    have z6 := HZ4.out.free 6
    have t0 := HZ4.out.cell 0 rfl
    have t1 := HZ4.out.cell 1 rfl
    have t2 := HZ4.out.cell 2 rfl
    have t3 := HZ4.out.cell 3 rfl
    have t4 := HZ4.out.cell 4 rfl
    have t5 := HZ4.out.cell 5 rfl
    have t6 := HZ4.out.cell 6 rfl
    have HBZ := hid (low7 HB4.out (b := w.heap.size + 1) (by omega) (.int .u8 8) (.int .i64 th) (.int .i64 0) (.int .i64 at_) (.int .i64 0) (.int .i64 x) (.int .u8 0))
    have HRZ := hid (set7 HZ4.out (.int .u8 8) (.int .i64 th) (.int .i64 0) (.int .i64 at_) (.int .i64 0) (.int .i64 x) (.int .u8 0))
    have q0 := HRZ.out.cell 0 rfl
    have q1 := HRZ.out.cell 1 rfl
    have q2 := HRZ.out.cell 2 rfl
    have q3 := HRZ.out.cell 3 rfl
    have q4 := HRZ.out.cell 4 rfl
    have q5 := HRZ.out.cell 5 rfl
    have q6 := HRZ.out.cell 6 rfl
    clear HZ4 HD4 HB4 HRZ
    go_wp2_with fail
    exact bodyPost_ret (v := .agg #[.int .u8 8, .int .i64 th, .int .i64 0, .int .i64 at_, .int .i64 0, .int .i64 x, .int .u8 0]) (by simp [results, Tryd.results36, go_sem, q0, q1, q2, q3, q4, q5, q6]) rfl (by rw [HR.out]; exact ⟨rfl, HBZ.out⟩)
set_option maxRecDepth 100000 in
set_option maxHeartbeats 4000000 in
theorem rbare_10 (th tx at_ v x why : Int) (w : World) : Calls Tryd.prog 36 #[evA ⟨10, th, tx, at_, v, x, why⟩] w (RBareP ⟨10, th, tx, at_, v, x, why⟩ w) := by
  have HR : Hid ((.agg #[.int .u8 (bareE ⟨10, th, tx, at_, v, x, why⟩).kind, .int .i64 (bareE ⟨10, th, tx, at_, v, x, why⟩).th, .int .i64 (bareE ⟨10, th, tx, at_, v, x, why⟩).tx, .int .i64 (bareE ⟨10, th, tx, at_, v, x, why⟩).at_, .int .i64 (bareE ⟨10, th, tx, at_, v, x, why⟩).v, .int .i64 (bareE ⟨10, th, tx, at_, v, x, why⟩).x, .int .u8 (bareE ⟨10, th, tx, at_, v, x, why⟩).why] : Value) = .agg #[.int .u8 10, .int .i64 th, .int .i64 0, .int .i64 at_, .int .i64 0, .int .i64 0, .int .u8 why]) := hid (by rfl)
  unfold RBareP
  dsimp only [evA]
  have HB3 : Hid (Below w.heap.size w (((w.alloc (.cells #[.int .u8 10, .int .i64 th, .int .i64 tx, .int .i64 at_, .int .i64 v, .int .i64 x, .int .u8 why] 23)).alloc (.cells #[.int .u8 0, .int .i64 0, .int .i64 0, .int .i64 0, .int .i64 0, .int .i64 0, .int .u8 0] 23)).alloc (.cells #[.int .u8 10, .int .i64 th, .int .i64 0, .int .i64 0, .int .i64 0, .int .i64 0, .int .u8 0] 23))) := hid (ext_alloc (ext_alloc (ext_alloc (ext_refl _) _) _) _)
  have HS3 : Hid (Blk (((w.alloc (.cells #[.int .u8 10, .int .i64 th, .int .i64 tx, .int .i64 at_, .int .i64 v, .int .i64 x, .int .u8 why] 23)).alloc (.cells #[.int .u8 0, .int .i64 0, .int .i64 0, .int .i64 0, .int .i64 0, .int .i64 0, .int .u8 0] 23)).alloc (.cells #[.int .u8 10, .int .i64 th, .int .i64 0, .int .i64 0, .int .i64 0, .int .i64 0, .int .u8 0] 23)) w.heap.size #[.int .u8 10, .int .i64 th, .int .i64 tx, .int .i64 at_, .int .i64 v, .int .i64 x, .int .u8 why] 23) := hid (((Blk.new _ _ _).alloc _).alloc _)
  have HZ3 : Hid (Blk (((w.alloc (.cells #[.int .u8 10, .int .i64 th, .int .i64 tx, .int .i64 at_, .int .i64 v, .int .i64 x, .int .u8 why] 23)).alloc (.cells #[.int .u8 0, .int .i64 0, .int .i64 0, .int .i64 0, .int .i64 0, .int .i64 0, .int .u8 0] 23)).alloc (.cells #[.int .u8 10, .int .i64 th, .int .i64 0, .int .i64 0, .int .i64 0, .int .i64 0, .int .u8 0] 23)) (w.heap.size + 1) #[.int .u8 0, .int .i64 0, .int .i64 0, .int .i64 0, .int .i64 0, .int .i64 0, .int .u8 0] 23) := hid ((Blk.new' _ _ _ (Array.size_push ..).symm).alloc _)
  have HD3 : Hid (Blk (((w.alloc (.cells #[.int .u8 10, .int .i64 th, .int .i64 tx, .int .i64 at_, .int .i64 v, .int .i64 x, .int .u8 why] 23)).alloc (.cells #[.int .u8 0, .int .i64 0, .int .i64 0, .int .i64 0, .int .i64 0, .int .i64 0, .int .u8 0] 23)).alloc (.cells #[.int .u8 10, .int .i64 th, .int .i64 0, .int .i64 0, .int .i64 0, .int .i64 0, .int .u8 0] 23)) (w.heap.size + 1 + 1) #[.int .u8 10, .int .i64 th, .int .i64 0, .int .i64 0, .int .i64 0, .int .i64 0, .int .u8 0] 23) := hid (Blk.new' _ _ _ (size2 _ _ _))
  go_enter Tryd.func36, Tryd.ntmps36
  have s0 := HS3.out.cell 0 rfl
  have s1 := HS3.out.cell 1 rfl
  have s2 := HS3.out.cell 2 rfl
  have s3 := HS3.out.cell 3 rfl
  have s4 := HS3.out.cell 4 rfl
  have s5 := HS3.out.cell 5 rfl
  have s6 := HS3.out.cell 6 rfl
  go_wp2_with fail
  clear s0 s1 s2 s3 s4 s5 s6
  generalize ((w.alloc (.cells #[.int .u8 10, .int .i64 th, .int .i64 tx, .int .i64 at_, .int .i64 v, .int .i64 x, .int .u8 why] 23)).alloc (.cells #[.int .u8 0, .int .i64 0, .int .i64 0, .int .i64 0, .int .i64 0, .int .i64 0, .int .u8 0] 23)).alloc (.cells #[.int .u8 10, .int .i64 th, .int .i64 0, .int .i64 0, .int .i64 0, .int .i64 0, .int .u8 0] 23) = W3 at HB3 HS3 HZ3 HD3 ⊢
  obtain ⟨W4, hW4⟩ : ∃ W, W = W3.drew := ⟨_, rfl⟩
  have HB3 : Hid (Below w.heap.size w W4) := hid (by rw [hW4]; exact ext_drew HB3.out)
  have HS3 : Hid (Blk W4 w.heap.size #[.int .u8 10, .int .i64 th, .int .i64 tx, .int .i64 at_, .int .i64 v, .int .i64 x, .int .u8 why] 23) := hid (by rw [hW4]; exact HS3.out.drew)
  have HZ3 : Hid (Blk W4 (w.heap.size + 1) #[.int .u8 0, .int .i64 0, .int .i64 0, .int .i64 0, .int .i64 0, .int .i64 0, .int .u8 0] 23) := hid (by rw [hW4]; exact HZ3.out.drew)
  have HD3 : Hid (Blk W4 (w.heap.size + 1 + 1) #[.int .u8 10, .int .i64 th, .int .i64 0, .int .i64 0, .int .i64 0, .int .i64 0, .int .u8 0] 23) := hid (by rw [hW4]; exact HD3.out.drew)
  have h00 : TwoSt W4 (w.heap.size + 1 + 1) 6 3 (.int .u8 why) (.int .i64 at_) 5 7 (fun _ => false) W3.drew := by rw [← hW4]; exact TwoSt.start
  clear hW4
  apply wp_region_valsJ [.pointer (some ⟨w.heap.size, 6, none⟩), .int .u8 why, .pointer (some ⟨w.heap.size, 3, none⟩), .int .i64 at_, .pointer (some ⟨w.heap.size + 1 + 1, 6, none⟩), undef, .pointer (some ⟨w.heap.size + 1 + 1, 3, none⟩), undef] (TwoSt W4 (w.heap.size + 1 + 1) 6 3 (.int .u8 why) (.int .i64 at_) 5 7)
  focus (simp [putAll, dstOf, Act.put, List.getD]; rfl)
  case hm => kernel_rfl
  case hd => kernel_rfl
  case hb => kernel_rfl
  case hdep => kernel_rfl
  case hsel => kernel_rfl
  case hng => kernel_rfl
  case hgv => kernel_rfl
  case hsz => kernel_rfl
  case hext => exact fun l l' w' h H => H.ext (k := 8) (by omega) (by omega) h
  case h0 => exact h00
  case hstep =>
    refine ⟨?_, ?_, ?_, ?_, ?_, ?_, ?_, ?_, trivial⟩
    · intro l w' hl hdp hJ
      rw [if_pos (by kernel_rfl)]
      intro K Qp hK
      have HJ := hid hJ
      clear hJ
      go_simp
      exact hK _ (HJ.out.other 0 (by omega) (by omega))
    · intro l w' hl hdp hJ
      rw [if_pos (by kernel_rfl)]
      intro K Qp hK
      have c0 := (hJ.blk (by omega) HS3.out).cell 6 rfl
      have HJ := hid hJ
      clear hJ
      go_simp
      exact hK _ (HJ.out.other 1 (by omega) (by omega))
    · intro l w' hl hdp hJ
      rw [if_pos (by kernel_rfl)]
      intro K Qp hK
      have HJ := hid hJ
      clear hJ
      go_simp
      exact hK _ (HJ.out.other 2 (by omega) (by omega))
    · intro l w' hl hdp hJ
      rw [if_pos (by kernel_rfl)]
      intro K Qp hK
      have c0 := (hJ.blk (by omega) HS3.out).cell 3 rfl
      have HJ := hid hJ
      clear hJ
      go_simp
      exact hK _ (HJ.out.other 3 (by omega) (by omega))
    · intro l w' hl hdp hJ
      rw [if_pos (by kernel_rfl)]
      intro K Qp hK
      have HJ := hid hJ
      clear hJ
      go_simp
      exact hK _ (HJ.out.other 4 (by omega) (by omega))
    · intro l w' hl hdp hJ
      rw [if_pos (by kernel_rfl)]
      intro K Qp hK
      obtain ⟨rfl, hn⟩ := hJ.first (by omega) hl
      have HN := hid hn
      have c0 := HD3.out.cell 6 rfl
      have f0 := HD3.out.free 6
      clear hJ hn
      go_simp
      exact hK _ HN.out
    · intro l w' hl hdp hJ
      rw [if_pos (by kernel_rfl)]
      intro K Qp hK
      have HJ := hid hJ
      clear hJ
      go_simp
      exact hK _ (HJ.out.other 6 (by omega) (by omega))
    · intro l w' hl hdp hJ
      rw [if_pos (by kernel_rfl)]
      intro K Qp hK
      obtain ⟨rfl, hn⟩ := hJ.second (by omega) (hdp 5 (by kernel_rfl)) hl
      have HN := hid hn
      have c0 := HD3.out.cell 3 rfl
      have f0 := HD3.out.free 3
      have c1 := (HD3.out.set 6 (.int .u8 why)).cell 3 rfl
      have f1 := (HD3.out.set 6 (.int .u8 why)).free 3
      clear hJ hn
      go_simp
      exact hK _ HN.out
  case hdone =>
    intro w' hJ
    obtain rfl := hJ.done
    have HZ4 := hid ((HZ3.out.set_other ⟨w.heap.size + 1 + 1, 6, none⟩ (.int .u8 why) (by dsimp only; omega)).set_other ⟨w.heap.size + 1 + 1, 3, none⟩ (.int .i64 at_) (by dsimp only; omega))
    have HD4 := hid ((HD3.out.set 6 (.int .u8 why)).set 3 (.int .i64 at_))
    have HB4 := hid ((HB3.out.setCell (p := ⟨w.heap.size + 1 + 1, 6, none⟩) (by dsimp only; omega) (.int .u8 why)).setCell (p := ⟨w.heap.size + 1 + 1, 3, none⟩) (by dsimp only; omega) (.int .i64 at_))
    simp only [List.setIfInBounds_toArray, List.set_cons_succ, List.set_cons_zero] at HD4
    clear HB3 HS3 HZ3 HD3 hJ h00
    generalize (W4.setCell ⟨w.heap.size + 1 + 1, 6, none⟩ (.int .u8 why)).setCell ⟨w.heap.size + 1 + 1, 3, none⟩ (.int .i64 at_) = W5 at HZ4 HD4 HB4 ⊢
    have y0 := HD4.out.cell 0 rfl
    have y1 := HD4.out.cell 1 rfl
    have y2 := HD4.out.cell 2 rfl
    have y3 := HD4.out.cell 3 rfl
    have y4 := HD4.out.cell 4 rfl
    have y5 := HD4.out.cell 5 rfl
    have y6 := HD4.out.cell 6 rfl
    have z0 := HZ4.out.free 0
    have z1 := HZ4.out.free 1
    have z2 := HZ4.out.free 2
    have z3 := HZ4.out.free 3
    have z4 := HZ4.out.free 4
    have z5 := HZ4.out.free 5
    have z6 := HZ4.out.free 6
    have t0 := HZ4.out.cell 0 rfl
    have t1 := HZ4.out.cell 1 rfl
    have t2 := HZ4.out.cell 2 rfl
    have t3 := HZ4.out.cell 3 rfl
    have t4 := HZ4.out.cell 4 rfl
    have t5 := HZ4.out.cell 5 rfl
    have t6 := HZ4.out.cell 6 rfl
    have HBZ := hid (low7 HB4.out (b := w.heap.size + 1) (by omega) (.int .u8 10) (.int .i64 th) (.int .i64 0) (.int .i64 at_) (.int .i64 0) (.int .i64 0) (.int .u8 why))
    have HRZ := hid (set7 HZ4.out (.int .u8 10) (.int .i64 th) (.int .i64 0) (.int .i64 at_) (.int .i64 0) (.int .i64 0) (.int .u8 why))
    have q0 := HRZ.out.cell 0 rfl
    have q1 := HRZ.out.cell 1 rfl
    have q2 := HRZ.out.cell 2 rfl
    have q3 := HRZ.out.cell 3 rfl
    have q4 := HRZ.out.cell 4 rfl
    have q5 := HRZ.out.cell 5 rfl
    have q6 := HRZ.out.cell 6 rfl
    clear HZ4 HD4 HB4 HRZ
    go_wp2_with fail
    exact bodyPost_ret (v := .agg #[.int .u8 10, .int .i64 th, .int .i64 0, .int .i64 at_, .int .i64 0, .int .i64 0, .int .u8 why]) (by simp [results, Tryd.results36, go_sem, q0, q1, q2, q3, q4, q5, q6]) rfl (by rw [HR.out]; exact ⟨rfl, HBZ.out⟩)
set_option maxRecDepth 100000 in
set_option maxHeartbeats 4000000 in
theorem rbare_4 (th tx at_ v x why : Int) (w : World) : Calls Tryd.prog 36 #[evA ⟨4, th, tx, at_, v, x, why⟩] w (RBareP ⟨4, th, tx, at_, v, x, why⟩ w) := by
  have HR : Hid ((.agg #[.int .u8 (bareE ⟨4, th, tx, at_, v, x, why⟩).kind, .int .i64 (bareE ⟨4, th, tx, at_, v, x, why⟩).th, .int .i64 (bareE ⟨4, th, tx, at_, v, x, why⟩).tx, .int .i64 (bareE ⟨4, th, tx, at_, v, x, why⟩).at_, .int .i64 (bareE ⟨4, th, tx, at_, v, x, why⟩).v, .int .i64 (bareE ⟨4, th, tx, at_, v, x, why⟩).x, .int .u8 (bareE ⟨4, th, tx, at_, v, x, why⟩).why] : Value) = .agg #[.int .u8 4, .int .i64 th, .int .i64 0, .int .i64 at_, .int .i64 0, .int .i64 0, .int .u8 0]) := hid (by rfl)
  unfold RBareP
  dsimp only [evA]
  have HB3 : Hid (Below w.heap.size w (((w.alloc (.cells #[.int .u8 4, .int .i64 th, .int .i64 tx, .int .i64 at_, .int .i64 v, .int .i64 x, .int .u8 why] 23)).alloc (.cells #[.int .u8 0, .int .i64 0, .int .i64 0, .int .i64 0, .int .i64 0, .int .i64 0, .int .u8 0] 23)).alloc (.cells #[.int .u8 4, .int .i64 th, .int .i64 0, .int .i64 0, .int .i64 0, .int .i64 0, .int .u8 0] 23))) := hid (ext_alloc (ext_alloc (ext_alloc (ext_refl _) _) _) _)
  have HS3 : Hid (Blk (((w.alloc (.cells #[.int .u8 4, .int .i64 th, .int .i64 tx, .int .i64 at_, .int .i64 v, .int .i64 x, .int .u8 why] 23)).alloc (.cells #[.int .u8 0, .int .i64 0, .int .i64 0, .int .i64 0, .int .i64 0, .int .i64 0, .int .u8 0] 23)).alloc (.cells #[.int .u8 4, .int .i64 th, .int .i64 0, .int .i64 0, .int .i64 0, .int .i64 0, .int .u8 0] 23)) w.heap.size #[.int .u8 4, .int .i64 th, .int .i64 tx, .int .i64 at_, .int .i64 v, .int .i64 x, .int .u8 why] 23) := hid (((Blk.new _ _ _).alloc _).alloc _)
  have HZ3 : Hid (Blk (((w.alloc (.cells #[.int .u8 4, .int .i64 th, .int .i64 tx, .int .i64 at_, .int .i64 v, .int .i64 x, .int .u8 why] 23)).alloc (.cells #[.int .u8 0, .int .i64 0, .int .i64 0, .int .i64 0, .int .i64 0, .int .i64 0, .int .u8 0] 23)).alloc (.cells #[.int .u8 4, .int .i64 th, .int .i64 0, .int .i64 0, .int .i64 0, .int .i64 0, .int .u8 0] 23)) (w.heap.size + 1) #[.int .u8 0, .int .i64 0, .int .i64 0, .int .i64 0, .int .i64 0, .int .i64 0, .int .u8 0] 23) := hid ((Blk.new' _ _ _ (Array.size_push ..).symm).alloc _)
  have HD3 : Hid (Blk (((w.alloc (.cells #[.int .u8 4, .int .i64 th, .int .i64 tx, .int .i64 at_, .int .i64 v, .int .i64 x, .int .u8 why] 23)).alloc (.cells #[.int .u8 0, .int .i64 0, .int .i64 0, .int .i64 0, .int .i64 0, .int .i64 0, .int .u8 0] 23)).alloc (.cells #[.int .u8 4, .int .i64 th, .int .i64 0, .int .i64 0, .int .i64 0, .int .i64 0, .int .u8 0] 23)) (w.heap.size + 1 + 1) #[.int .u8 4, .int .i64 th, .int .i64 0, .int .i64 0, .int .i64 0, .int .i64 0, .int .u8 0] 23) := hid (Blk.new' _ _ _ (size2 _ _ _))
  go_enter Tryd.func36, Tryd.ntmps36
  have s0 := HS3.out.cell 0 rfl
  have s1 := HS3.out.cell 1 rfl
  have s2 := HS3.out.cell 2 rfl
  have s3 := HS3.out.cell 3 rfl
  have s4 := HS3.out.cell 4 rfl
  have s5 := HS3.out.cell 5 rfl
  have s6 := HS3.out.cell 6 rfl
  go_upto_block 0 with fail
  clear s0 s1 s2 s3 s4 s5 s6
  generalize ((w.alloc (.cells #[.int .u8 4, .int .i64 th, .int .i64 tx, .int .i64 at_, .int .i64 v, .int .i64 x, .int .u8 why] 23)).alloc (.cells #[.int .u8 0, .int .i64 0, .int .i64 0, .int .i64 0, .int .i64 0, .int .i64 0, .int .u8 0] 23)).alloc (.cells #[.int .u8 4, .int .i64 th, .int .i64 0, .int .i64 0, .int .i64 0, .int .i64 0, .int .u8 0] 23) = W3 at HB3 HS3 HZ3 HD3 ⊢
  have HZ4 := hid (HZ3.out.set_other ⟨w.heap.size + 1 + 1, 3, none⟩ (.int .i64 at_) (by dsimp only; omega))
  have HD4 := hid (HD3.out.set 3 (.int .i64 at_))
  have HB4 := hid (HB3.out.setCell (p := ⟨w.heap.size + 1 + 1, 3, none⟩) (by dsimp only; omega) (.int .i64 at_))
  simp only [List.setIfInBounds_toArray, List.set_cons_succ, List.set_cons_zero] at HD4
  have s := HS3.out.cell 3 rfl
  have d := HD3.out.cell 3 rfl
  have g := HD3.out.free 3
  obtain ⟨W5, hW5⟩ : ∃ W, W3.setCell ⟨w.heap.size + 1 + 1, 3, none⟩ (.int .i64 at_) = W := ⟨_, rfl⟩
  rw [hW5] at HZ4 HD4 HB4
  clear HB3 HZ3 HD3 HS3
  have y0 := HD4.out.cell 0 rfl
  have y1 := HD4.out.cell 1 rfl
  have y2 := HD4.out.cell 2 rfl
  have y3 := HD4.out.cell 3 rfl
  have y4 := HD4.out.cell 4 rfl
  have y5 := HD4.out.cell 5 rfl
  have y6 := HD4.out.cell 6 rfl
  have z0 := HZ4.out.free 0
  have z1 := HZ4.out.free 1
  have z2 := HZ4.out.free 2
  have z3 := HZ4.out.free 3
  have z4 := HZ4.out.free 4
  have z5 := HZ4.out.free 5
  have z6 := HZ4.out.free 6
  have t0 := HZ4.out.cell 0 rfl
  have t1 := HZ4.out.cell 1 rfl
  have t2 := HZ4.out.cell 2 rfl
  have t3 := HZ4.out.cell 3 rfl
  have t4 := HZ4.out.cell 4 rfl
  have t5 := HZ4.out.cell 5 rfl
  have t6 := HZ4.out.cell 6 rfl
  have HBZ := hid (low7 HB4.out (b := w.heap.size + 1) (by omega) (.int .u8 4) (.int .i64 th) (.int .i64 0) (.int .i64 at_) (.int .i64 0) (.int .i64 0) (.int .u8 0))
  have HRZ := hid (set7 HZ4.out (.int .u8 4) (.int .i64 th) (.int .i64 0) (.int .i64 at_) (.int .i64 0) (.int .i64 0) (.int .u8 0))
  have q0 := HRZ.out.cell 0 rfl
  have q1 := HRZ.out.cell 1 rfl
  have q2 := HRZ.out.cell 2 rfl
  have q3 := HRZ.out.cell 3 rfl
  have q4 := HRZ.out.cell 4 rfl
  have q5 := HRZ.out.cell 5 rfl
  have q6 := HRZ.out.cell 6 rfl
  clear HB4 HZ4 HD4 HRZ
  go_wp2_with fail
  exact bodyPost_ret (v := .agg #[.int .u8 4, .int .i64 th, .int .i64 0, .int .i64 at_, .int .i64 0, .int .i64 0, .int .u8 0]) (by simp [results, Tryd.results36, go_sem, q0, q1, q2, q3, q4, q5, q6]) rfl (by rw [HR.out]; exact ⟨rfl, HBZ.out⟩)
set_option maxRecDepth 100000 in
set_option maxHeartbeats 4000000 in
theorem rbare_6 (th tx at_ v x why : Int) (w : World) : Calls Tryd.prog 36 #[evA ⟨6, th, tx, at_, v, x, why⟩] w (RBareP ⟨6, th, tx, at_, v, x, why⟩ w) := by
  have HR : Hid ((.agg #[.int .u8 (bareE ⟨6, th, tx, at_, v, x, why⟩).kind, .int .i64 (bareE ⟨6, th, tx, at_, v, x, why⟩).th, .int .i64 (bareE ⟨6, th, tx, at_, v, x, why⟩).tx, .int .i64 (bareE ⟨6, th, tx, at_, v, x, why⟩).at_, .int .i64 (bareE ⟨6, th, tx, at_, v, x, why⟩).v, .int .i64 (bareE ⟨6, th, tx, at_, v, x, why⟩).x, .int .u8 (bareE ⟨6, th, tx, at_, v, x, why⟩).why] : Value) = .agg #[.int .u8 6, .int .i64 th, .int .i64 0, .int .i64 at_, .int .i64 0, .int .i64 0, .int .u8 0]) := hid (by rfl)
  unfold RBareP
  dsimp only [evA]
  have HB3 : Hid (Below w.heap.size w (((w.alloc (.cells #[.int .u8 6, .int .i64 th, .int .i64 tx, .int .i64 at_, .int .i64 v, .int .i64 x, .int .u8 why] 23)).alloc (.cells #[.int .u8 0, .int .i64 0, .int .i64 0, .int .i64 0, .int .i64 0, .int .i64 0, .int .u8 0] 23)).alloc (.cells #[.int .u8 6, .int .i64 th, .int .i64 0, .int .i64 0, .int .i64 0, .int .i64 0, .int .u8 0] 23))) := hid (ext_alloc (ext_alloc (ext_alloc (ext_refl _) _) _) _)
  have HS3 : Hid (Blk (((w.alloc (.cells #[.int .u8 6, .int .i64 th, .int .i64 tx, .int .i64 at_, .int .i64 v, .int .i64 x, .int .u8 why] 23)).alloc (.cells #[.int .u8 0, .int .i64 0, .int .i64 0, .int .i64 0, .int .i64 0, .int .i64 0, .int .u8 0] 23)).alloc (.cells #[.int .u8 6, .int .i64 th, .int .i64 0, .int .i64 0, .int .i64 0, .int .i64 0, .int .u8 0] 23)) w.heap.size #[.int .u8 6, .int .i64 th, .int .i64 tx, .int .i64 at_, .int .i64 v, .int .i64 x, .int .u8 why] 23) := hid (((Blk.new _ _ _).alloc _).alloc _)
  have HZ3 : Hid (Blk (((w.alloc (.cells #[.int .u8 6, .int .i64 th, .int .i64 tx, .int .i64 at_, .int .i64 v, .int .i64 x, .int .u8 why] 23)).alloc (.cells #[.int .u8 0, .int .i64 0, .int .i64 0, .int .i64 0, .int .i64 0, .int .i64 0, .int .u8 0] 23)).alloc (.cells #[.int .u8 6, .int .i64 th, .int .i64 0, .int .i64 0, .int .i64 0, .int .i64 0, .int .u8 0] 23)) (w.heap.size + 1) #[.int .u8 0, .int .i64 0, .int .i64 0, .int .i64 0, .int .i64 0, .int .i64 0, .int .u8 0] 23) := hid ((Blk.new' _ _ _ (Array.size_push ..).symm).alloc _)
  have HD3 : Hid (Blk (((w.alloc (.cells #[.int .u8 6, .int .i64 th, .int .i64 tx, .int .i64 at_, .int .i64 v, .int .i64 x, .int .u8 why] 23)).alloc (.cells #[.int .u8 0, .int .i64 0, .int .i64 0, .int .i64 0, .int .i64 0, .int .i64 0, .int .u8 0] 23)).alloc (.cells #[.int .u8 6, .int .i64 th, .int .i64 0, .int .i64 0, .int .i64 0, .int .i64 0, .int .u8 0] 23)) (w.heap.size + 1 + 1) #[.int .u8 6, .int .i64 th, .int .i64 0, .int .i64 0, .int .i64 0, .int .i64 0, .int .u8 0] 23) := hid (Blk.new' _ _ _ (size2 _ _ _))
  go_enter Tryd.func36, Tryd.ntmps36
  have s0 := HS3.out.cell 0 rfl
  have s1 := HS3.out.cell 1 rfl
  have s2 := HS3.out.cell 2 rfl
  have s3 := HS3.out.cell 3 rfl
  have s4 := HS3.out.cell 4 rfl
  have s5 := HS3.out.cell 5 rfl
  have s6 := HS3.out.cell 6 rfl
  go_upto_block 0 with fail
  clear s0 s1 s2 s3 s4 s5 s6
  generalize ((w.alloc (.cells #[.int .u8 6, .int .i64 th, .int .i64 tx, .int .i64 at_, .int .i64 v, .int .i64 x, .int .u8 why] 23)).alloc (.cells #[.int .u8 0, .int .i64 0, .int .i64 0, .int .i64 0, .int .i64 0, .int .i64 0, .int .u8 0] 23)).alloc (.cells #[.int .u8 6, .int .i64 th, .int .i64 0, .int .i64 0, .int .i64 0, .int .i64 0, .int .u8 0] 23) = W3 at HB3 HS3 HZ3 HD3 ⊢
  have HZ4 := hid (HZ3.out.set_other ⟨w.heap.size + 1 + 1, 3, none⟩ (.int .i64 at_) (by dsimp only; omega))
  have HD4 := hid (HD3.out.set 3 (.int .i64 at_))
  have HB4 := hid (HB3.out.setCell (p := ⟨w.heap.size + 1 + 1, 3, none⟩) (by dsimp only; omega) (.int .i64 at_))
  simp only [List.setIfInBounds_toArray, List.set_cons_succ, List.set_cons_zero] at HD4
  have s := HS3.out.cell 3 rfl
  have d := HD3.out.cell 3 rfl
  have g := HD3.out.free 3
  obtain ⟨W5, hW5⟩ : ∃ W, W3.setCell ⟨w.heap.size + 1 + 1, 3, none⟩ (.int .i64 at_) = W := ⟨_, rfl⟩
  rw [hW5] at HZ4 HD4 HB4
  clear HB3 HZ3 HD3 HS3
  have y0 := HD4.out.cell 0 rfl
  have y1 := HD4.out.cell 1 rfl
  have y2 := HD4.out.cell 2 rfl
  have y3 := HD4.out.cell 3 rfl
  have y4 := HD4.out.cell 4 rfl
  have y5 := HD4.out.cell 5 rfl
  have y6 := HD4.out.cell 6 rfl
  have z0 := HZ4.out.free 0
  have z1 := HZ4.out.free 1
  have z2 := HZ4.out.free 2
  have z3 := HZ4.out.free 3
  have z4 := HZ4.out.free 4
  have z5 := HZ4.out.free 5
  have z6 := HZ4.out.free 6
  have t0 := HZ4.out.cell 0 rfl
  have t1 := HZ4.out.cell 1 rfl
  have t2 := HZ4.out.cell 2 rfl
  have t3 := HZ4.out.cell 3 rfl
  have t4 := HZ4.out.cell 4 rfl
  have t5 := HZ4.out.cell 5 rfl
  have t6 := HZ4.out.cell 6 rfl
  have HBZ := hid (low7 HB4.out (b := w.heap.size + 1) (by omega) (.int .u8 6) (.int .i64 th) (.int .i64 0) (.int .i64 at_) (.int .i64 0) (.int .i64 0) (.int .u8 0))
  have HRZ := hid (set7 HZ4.out (.int .u8 6) (.int .i64 th) (.int .i64 0) (.int .i64 at_) (.int .i64 0) (.int .i64 0) (.int .u8 0))
  have q0 := HRZ.out.cell 0 rfl
  have q1 := HRZ.out.cell 1 rfl
  have q2 := HRZ.out.cell 2 rfl
  have q3 := HRZ.out.cell 3 rfl
  have q4 := HRZ.out.cell 4 rfl
  have q5 := HRZ.out.cell 5 rfl
  have q6 := HRZ.out.cell 6 rfl
  clear HB4 HZ4 HD4 HRZ
  go_wp2_with fail
  exact bodyPost_ret (v := .agg #[.int .u8 6, .int .i64 th, .int .i64 0, .int .i64 at_, .int .i64 0, .int .i64 0, .int .u8 0]) (by simp [results, Tryd.results36, go_sem, q0, q1, q2, q3, q4, q5, q6]) rfl (by rw [HR.out]; exact ⟨rfl, HBZ.out⟩)
set_option maxRecDepth 100000 in
set_option maxHeartbeats 4000000 in
theorem rbare_9 (th tx at_ v x why : Int) (w : World) : Calls Tryd.prog 36 #[evA ⟨9, th, tx, at_, v, x, why⟩] w (RBareP ⟨9, th, tx, at_, v, x, why⟩ w) := by
  have HR : Hid ((.agg #[.int .u8 (bareE ⟨9, th, tx, at_, v, x, why⟩).kind, .int .i64 (bareE ⟨9, th, tx, at_, v, x, why⟩).th, .int .i64 (bareE ⟨9, th, tx, at_, v, x, why⟩).tx, .int .i64 (bareE ⟨9, th, tx, at_, v, x, why⟩).at_, .int .i64 (bareE ⟨9, th, tx, at_, v, x, why⟩).v, .int .i64 (bareE ⟨9, th, tx, at_, v, x, why⟩).x, .int .u8 (bareE ⟨9, th, tx, at_, v, x, why⟩).why] : Value) = .agg #[.int .u8 9, .int .i64 th, .int .i64 0, .int .i64 at_, .int .i64 0, .int .i64 0, .int .u8 0]) := hid (by rfl)
  unfold RBareP
  dsimp only [evA]
  have HB3 : Hid (Below w.heap.size w (((w.alloc (.cells #[.int .u8 9, .int .i64 th, .int .i64 tx, .int .i64 at_, .int .i64 v, .int .i64 x, .int .u8 why] 23)).alloc (.cells #[.int .u8 0, .int .i64 0, .int .i64 0, .int .i64 0, .int .i64 0, .int .i64 0, .int .u8 0] 23)).alloc (.cells #[.int .u8 9, .int .i64 th, .int .i64 0, .int .i64 0, .int .i64 0, .int .i64 0, .int .u8 0] 23))) := hid (ext_alloc (ext_alloc (ext_alloc (ext_refl _) _) _) _)
  have HS3 : Hid (Blk (((w.alloc (.cells #[.int .u8 9, .int .i64 th, .int .i64 tx, .int .i64 at_, .int .i64 v, .int .i64 x, .int .u8 why] 23)).alloc (.cells #[.int .u8 0, .int .i64 0, .int .i64 0, .int .i64 0, .int .i64 0, .int .i64 0, .int .u8 0] 23)).alloc (.cells #[.int .u8 9, .int .i64 th, .int .i64 0, .int .i64 0, .int .i64 0, .int .i64 0, .int .u8 0] 23)) w.heap.size #[.int .u8 9, .int .i64 th, .int .i64 tx, .int .i64 at_, .int .i64 v, .int .i64 x, .int .u8 why] 23) := hid (((Blk.new _ _ _).alloc _).alloc _)
  have HZ3 : Hid (Blk (((w.alloc (.cells #[.int .u8 9, .int .i64 th, .int .i64 tx, .int .i64 at_, .int .i64 v, .int .i64 x, .int .u8 why] 23)).alloc (.cells #[.int .u8 0, .int .i64 0, .int .i64 0, .int .i64 0, .int .i64 0, .int .i64 0, .int .u8 0] 23)).alloc (.cells #[.int .u8 9, .int .i64 th, .int .i64 0, .int .i64 0, .int .i64 0, .int .i64 0, .int .u8 0] 23)) (w.heap.size + 1) #[.int .u8 0, .int .i64 0, .int .i64 0, .int .i64 0, .int .i64 0, .int .i64 0, .int .u8 0] 23) := hid ((Blk.new' _ _ _ (Array.size_push ..).symm).alloc _)
  have HD3 : Hid (Blk (((w.alloc (.cells #[.int .u8 9, .int .i64 th, .int .i64 tx, .int .i64 at_, .int .i64 v, .int .i64 x, .int .u8 why] 23)).alloc (.cells #[.int .u8 0, .int .i64 0, .int .i64 0, .int .i64 0, .int .i64 0, .int .i64 0, .int .u8 0] 23)).alloc (.cells #[.int .u8 9, .int .i64 th, .int .i64 0, .int .i64 0, .int .i64 0, .int .i64 0, .int .u8 0] 23)) (w.heap.size + 1 + 1) #[.int .u8 9, .int .i64 th, .int .i64 0, .int .i64 0, .int .i64 0, .int .i64 0, .int .u8 0] 23) := hid (Blk.new' _ _ _ (size2 _ _ _))
  go_enter Tryd.func36, Tryd.ntmps36
  have s0 := HS3.out.cell 0 rfl
  have s1 := HS3.out.cell 1 rfl
  have s2 := HS3.out.cell 2 rfl
  have s3 := HS3.out.cell 3 rfl
  have s4 := HS3.out.cell 4 rfl
  have s5 := HS3.out.cell 5 rfl
  have s6 := HS3.out.cell 6 rfl
  go_upto_block 0 with fail
  clear s0 s1 s2 s3 s4 s5 s6
  generalize ((w.alloc (.cells #[.int .u8 9, .int .i64 th, .int .i64 tx, .int .i64 at_, .int .i64 v, .int .i64 x, .int .u8 why] 23)).alloc (.cells #[.int .u8 0, .int .i64 0, .int .i64 0, .int .i64 0, .int .i64 0, .int .i64 0, .int .u8 0] 23)).alloc (.cells #[.int .u8 9, .int .i64 th, .int .i64 0, .int .i64 0, .int .i64 0, .int .i64 0, .int .u8 0] 23) = W3 at HB3 HS3 HZ3 HD3 ⊢
  have HZ4 := hid (HZ3.out.set_other ⟨w.heap.size + 1 + 1, 3, none⟩ (.int .i64 at_) (by dsimp only; omega))
  have HD4 := hid (HD3.out.set 3 (.int .i64 at_))
  have HB4 := hid (HB3.out.setCell (p := ⟨w.heap.size + 1 + 1, 3, none⟩) (by dsimp only; omega) (.int .i64 at_))
  simp only [List.setIfInBounds_toArray, List.set_cons_succ, List.set_cons_zero] at HD4
  have s := HS3.out.cell 3 rfl
  have d := HD3.out.cell 3 rfl
  have g := HD3.out.free 3
  obtain ⟨W5, hW5⟩ : ∃ W, W3.setCell ⟨w.heap.size + 1 + 1, 3, none⟩ (.int .i64 at_) = W := ⟨_, rfl⟩
  rw [hW5] at HZ4 HD4 HB4
  clear HB3 HZ3 HD3 HS3
  have y0 := HD4.out.cell 0 rfl
  have y1 := HD4.out.cell 1 rfl
  have y2 := HD4.out.cell 2 rfl
  have y3 := HD4.out.cell 3 rfl
  have y4 := HD4.out.cell 4 rfl
  have y5 := HD4.out.cell 5 rfl
  have y6 := HD4.out.cell 6 rfl
  have z0 := HZ4.out.free 0
  have z1 := HZ4.out.free 1
  have z2 := HZ4.out.free 2
  have z3 := HZ4.out.free 3
  have z4 := HZ4.out.free 4
  have z5 := HZ4.out.free 5
  have z6 := HZ4.out.free 6
  have t0 := HZ4.out.cell 0 rfl
  have t1 := HZ4.out.cell 1 rfl
  have t2 := HZ4.out.cell 2 rfl
  have t3 := HZ4.out.cell 3 rfl
  have t4 := HZ4.out.cell 4 rfl
  have t5 := HZ4.out.cell 5 rfl
  have t6 := HZ4.out.cell 6 rfl
  have HBZ := hid (low7 HB4.out (b := w.heap.size + 1) (by omega) (.int .u8 9) (.int .i64 th) (.int .i64 0) (.int .i64 at_) (.int .i64 0) (.int .i64 0) (.int .u8 0))
  have HRZ := hid (set7 HZ4.out (.int .u8 9) (.int .i64 th) (.int .i64 0) (.int .i64 at_) (.int .i64 0) (.int .i64 0) (.int .u8 0))
  have q0 := HRZ.out.cell 0 rfl
  have q1 := HRZ.out.cell 1 rfl
  have q2 := HRZ.out.cell 2 rfl
  have q3 := HRZ.out.cell 3 rfl
  have q4 := HRZ.out.cell 4 rfl
  have q5 := HRZ.out.cell 5 rfl
  have q6 := HRZ.out.cell 6 rfl
  clear HB4 HZ4 HD4 HRZ
  go_wp2_with fail
  exact bodyPost_ret (v := .agg #[.int .u8 9, .int .i64 th, .int .i64 0, .int .i64 at_, .int .i64 0, .int .i64 0, .int .u8 0]) (by simp [results, Tryd.results36, go_sem, q0, q1, q2, q3, q4, q5, q6]) rfl (by rw [HR.out]; exact ⟨rfl, HBZ.out⟩)
set_option maxRecDepth 100000 in
set_option maxHeartbeats 4000000 in
theorem rbare_11 (th tx at_ v x why : Int) (w : World) : Calls Tryd.prog 36 #[evA ⟨11, th, tx, at_, v, x, why⟩] w (RBareP ⟨11, th, tx, at_, v, x, why⟩ w) := by
  have HR : Hid ((.agg #[.int .u8 (bareE ⟨11, th, tx, at_, v, x, why⟩).kind, .int .i64 (bareE ⟨11, th, tx, at_, v, x, why⟩).th, .int .i64 (bareE ⟨11, th, tx, at_, v, x, why⟩).tx, .int .i64 (bareE ⟨11, th, tx, at_, v, x, why⟩).at_, .int .i64 (bareE ⟨11, th, tx, at_, v, x, why⟩).v, .int .i64 (bareE ⟨11, th, tx, at_, v, x, why⟩).x, .int .u8 (bareE ⟨11, th, tx, at_, v, x, why⟩).why] : Value) = .agg #[.int .u8 11, .int .i64 th, .int .i64 0, .int .i64 at_, .int .i64 0, .int .i64 0, .int .u8 0]) := hid (by rfl)
  unfold RBareP
  dsimp only [evA]
  have HB3 : Hid (Below w.heap.size w (((w.alloc (.cells #[.int .u8 11, .int .i64 th, .int .i64 tx, .int .i64 at_, .int .i64 v, .int .i64 x, .int .u8 why] 23)).alloc (.cells #[.int .u8 0, .int .i64 0, .int .i64 0, .int .i64 0, .int .i64 0, .int .i64 0, .int .u8 0] 23)).alloc (.cells #[.int .u8 11, .int .i64 th, .int .i64 0, .int .i64 0, .int .i64 0, .int .i64 0, .int .u8 0] 23))) := hid (ext_alloc (ext_alloc (ext_alloc (ext_refl _) _) _) _)
  have HS3 : Hid (Blk (((w.alloc (.cells #[.int .u8 11, .int .i64 th, .int .i64 tx, .int .i64 at_, .int .i64 v, .int .i64 x, .int .u8 why] 23)).alloc (.cells #[.int .u8 0, .int .i64 0, .int .i64 0, .int .i64 0, .int .i64 0, .int .i64 0, .int .u8 0] 23)).alloc (.cells #[.int .u8 11, .int .i64 th, .int .i64 0, .int .i64 0, .int .i64 0, .int .i64 0, .int .u8 0] 23)) w.heap.size #[.int .u8 11, .int .i64 th, .int .i64 tx, .int .i64 at_, .int .i64 v, .int .i64 x, .int .u8 why] 23) := hid (((Blk.new _ _ _).alloc _).alloc _)
  have HZ3 : Hid (Blk (((w.alloc (.cells #[.int .u8 11, .int .i64 th, .int .i64 tx, .int .i64 at_, .int .i64 v, .int .i64 x, .int .u8 why] 23)).alloc (.cells #[.int .u8 0, .int .i64 0, .int .i64 0, .int .i64 0, .int .i64 0, .int .i64 0, .int .u8 0] 23)).alloc (.cells #[.int .u8 11, .int .i64 th, .int .i64 0, .int .i64 0, .int .i64 0, .int .i64 0, .int .u8 0] 23)) (w.heap.size + 1) #[.int .u8 0, .int .i64 0, .int .i64 0, .int .i64 0, .int .i64 0, .int .i64 0, .int .u8 0] 23) := hid ((Blk.new' _ _ _ (Array.size_push ..).symm).alloc _)
  have HD3 : Hid (Blk (((w.alloc (.cells #[.int .u8 11, .int .i64 th, .int .i64 tx, .int .i64 at_, .int .i64 v, .int .i64 x, .int .u8 why] 23)).alloc (.cells #[.int .u8 0, .int .i64 0, .int .i64 0, .int .i64 0, .int .i64 0, .int .i64 0, .int .u8 0] 23)).alloc (.cells #[.int .u8 11, .int .i64 th, .int .i64 0, .int .i64 0, .int .i64 0, .int .i64 0, .int .u8 0] 23)) (w.heap.size + 1 + 1) #[.int .u8 11, .int .i64 th, .int .i64 0, .int .i64 0, .int .i64 0, .int .i64 0, .int .u8 0] 23) := hid (Blk.new' _ _ _ (size2 _ _ _))
  go_enter Tryd.func36, Tryd.ntmps36
  have s0 := HS3.out.cell 0 rfl
  have s1 := HS3.out.cell 1 rfl
  have s2 := HS3.out.cell 2 rfl
  have s3 := HS3.out.cell 3 rfl
  have s4 := HS3.out.cell 4 rfl
  have s5 := HS3.out.cell 5 rfl
  have s6 := HS3.out.cell 6 rfl
  go_upto_block 0 with fail
  clear s0 s1 s2 s3 s4 s5 s6
  generalize ((w.alloc (.cells #[.int .u8 11, .int .i64 th, .int .i64 tx, .int .i64 at_, .int .i64 v, .int .i64 x, .int .u8 why] 23)).alloc (.cells #[.int .u8 0, .int .i64 0, .int .i64 0, .int .i64 0, .int .i64 0, .int .i64 0, .int .u8 0] 23)).alloc (.cells #[.int .u8 11, .int .i64 th, .int .i64 0, .int .i64 0, .int .i64 0, .int .i64 0, .int .u8 0] 23) = W3 at HB3 HS3 HZ3 HD3 ⊢
  have HZ4 := hid (HZ3.out.set_other ⟨w.heap.size + 1 + 1, 3, none⟩ (.int .i64 at_) (by dsimp only; omega))
  have HD4 := hid (HD3.out.set 3 (.int .i64 at_))
  have HB4 := hid (HB3.out.setCell (p := ⟨w.heap.size + 1 + 1, 3, none⟩) (by dsimp only; omega) (.int .i64 at_))
  simp only [List.setIfInBounds_toArray, List.set_cons_succ, List.set_cons_zero] at HD4
  have s := HS3.out.cell 3 rfl
  have d := HD3.out.cell 3 rfl
  have g := HD3.out.free 3
  obtain ⟨W5, hW5⟩ : ∃ W, W3.setCell ⟨w.heap.size + 1 + 1, 3, none⟩ (.int .i64 at_) = W := ⟨_, rfl⟩
  rw [hW5] at HZ4 HD4 HB4
  clear HB3 HZ3 HD3 HS3
  have y0 := HD4.out.cell 0 rfl
  have y1 := HD4.out.cell 1 rfl
  have y2 := HD4.out.cell 2 rfl
  have y3 := HD4.out.cell 3 rfl
  have y4 := HD4.out.cell 4 rfl
  have y5 := HD4.out.cell 5 rfl
  have y6 := HD4.out.cell 6 rfl
  have z0 := HZ4.out.free 0
  have z1 := HZ4.out.free 1
  have z2 := HZ4.out.free 2
  have z3 := HZ4.out.free 3
  have z4 := HZ4.out.free 4
  have z5 := HZ4.out.free 5
  have z6 := HZ4.out.free 6
  have t0 := HZ4.out.cell 0 rfl
  have t1 := HZ4.out.cell 1 rfl
  have t2 := HZ4.out.cell 2 rfl
  have t3 := HZ4.out.cell 3 rfl
  have t4 := HZ4.out.cell 4 rfl
  have t5 := HZ4.out.cell 5 rfl
  have t6 := HZ4.out.cell 6 rfl
  have HBZ := hid (low7 HB4.out (b := w.heap.size + 1) (by omega) (.int .u8 11) (.int .i64 th) (.int .i64 0) (.int .i64 at_) (.int .i64 0) (.int .i64 0) (.int .u8 0))
  have HRZ := hid (set7 HZ4.out (.int .u8 11) (.int .i64 th) (.int .i64 0) (.int .i64 at_) (.int .i64 0) (.int .i64 0) (.int .u8 0))
  have q0 := HRZ.out.cell 0 rfl
  have q1 := HRZ.out.cell 1 rfl
  have q2 := HRZ.out.cell 2 rfl
  have q3 := HRZ.out.cell 3 rfl
  have q4 := HRZ.out.cell 4 rfl
  have q5 := HRZ.out.cell 5 rfl
  have q6 := HRZ.out.cell 6 rfl
  clear HB4 HZ4 HD4 HRZ
  go_wp2_with fail
  exact bodyPost_ret (v := .agg #[.int .u8 11, .int .i64 th, .int .i64 0, .int .i64 at_, .int .i64 0, .int .i64 0, .int .u8 0]) (by simp [results, Tryd.results36, go_sem, q0, q1, q2, q3, q4, q5, q6]) rfl (by rw [HR.out]; exact ⟨rfl, HBZ.out⟩)
set_option maxRecDepth 100000 in
set_option maxHeartbeats 4000000 in
theorem rbare_5 (th tx at_ v x why : Int) (w : World) : Calls Tryd.prog 36 #[evA ⟨5, th, tx, at_, v, x, why⟩] w (RBareP ⟨5, th, tx, at_, v, x, why⟩ w) := by
  have HR : Hid ((.agg #[.int .u8 (bareE ⟨5, th, tx, at_, v, x, why⟩).kind, .int .i64 (bareE ⟨5, th, tx, at_, v, x, why⟩).th, .int .i64 (bareE ⟨5, th, tx, at_, v, x, why⟩).tx, .int .i64 (bareE ⟨5, th, tx, at_, v, x, why⟩).at_, .int .i64 (bareE ⟨5, th, tx, at_, v, x, why⟩).v, .int .i64 (bareE ⟨5, th, tx, at_, v, x, why⟩).x, .int .u8 (bareE ⟨5, th, tx, at_, v, x, why⟩).why] : Value) = .agg #[.int .u8 5, .int .i64 th, .int .i64 0, .int .i64 0, .int .i64 v, .int .i64 0, .int .u8 0]) := hid (by rfl)
  unfold RBareP
  dsimp only [evA]
  have HB3 : Hid (Below w.heap.size w (((w.alloc (.cells #[.int .u8 5, .int .i64 th, .int .i64 tx, .int .i64 at_, .int .i64 v, .int .i64 x, .int .u8 why] 23)).alloc (.cells #[.int .u8 0, .int .i64 0, .int .i64 0, .int .i64 0, .int .i64 0, .int .i64 0, .int .u8 0] 23)).alloc (.cells #[.int .u8 5, .int .i64 th, .int .i64 0, .int .i64 0, .int .i64 0, .int .i64 0, .int .u8 0] 23))) := hid (ext_alloc (ext_alloc (ext_alloc (ext_refl _) _) _) _)
  have HS3 : Hid (Blk (((w.alloc (.cells #[.int .u8 5, .int .i64 th, .int .i64 tx, .int .i64 at_, .int .i64 v, .int .i64 x, .int .u8 why] 23)).alloc (.cells #[.int .u8 0, .int .i64 0, .int .i64 0, .int .i64 0, .int .i64 0, .int .i64 0, .int .u8 0] 23)).alloc (.cells #[.int .u8 5, .int .i64 th, .int .i64 0, .int .i64 0, .int .i64 0, .int .i64 0, .int .u8 0] 23)) w.heap.size #[.int .u8 5, .int .i64 th, .int .i64 tx, .int .i64 at_, .int .i64 v, .int .i64 x, .int .u8 why] 23) := hid (((Blk.new _ _ _).alloc _).alloc _)
  have HZ3 : Hid (Blk (((w.alloc (.cells #[.int .u8 5, .int .i64 th, .int .i64 tx, .int .i64 at_, .int .i64 v, .int .i64 x, .int .u8 why] 23)).alloc (.cells #[.int .u8 0, .int .i64 0, .int .i64 0, .int .i64 0, .int .i64 0, .int .i64 0, .int .u8 0] 23)).alloc (.cells #[.int .u8 5, .int .i64 th, .int .i64 0, .int .i64 0, .int .i64 0, .int .i64 0, .int .u8 0] 23)) (w.heap.size + 1) #[.int .u8 0, .int .i64 0, .int .i64 0, .int .i64 0, .int .i64 0, .int .i64 0, .int .u8 0] 23) := hid ((Blk.new' _ _ _ (Array.size_push ..).symm).alloc _)
  have HD3 : Hid (Blk (((w.alloc (.cells #[.int .u8 5, .int .i64 th, .int .i64 tx, .int .i64 at_, .int .i64 v, .int .i64 x, .int .u8 why] 23)).alloc (.cells #[.int .u8 0, .int .i64 0, .int .i64 0, .int .i64 0, .int .i64 0, .int .i64 0, .int .u8 0] 23)).alloc (.cells #[.int .u8 5, .int .i64 th, .int .i64 0, .int .i64 0, .int .i64 0, .int .i64 0, .int .u8 0] 23)) (w.heap.size + 1 + 1) #[.int .u8 5, .int .i64 th, .int .i64 0, .int .i64 0, .int .i64 0, .int .i64 0, .int .u8 0] 23) := hid (Blk.new' _ _ _ (size2 _ _ _))
  go_enter Tryd.func36, Tryd.ntmps36
  have s0 := HS3.out.cell 0 rfl
  have s1 := HS3.out.cell 1 rfl
  have s2 := HS3.out.cell 2 rfl
  have s3 := HS3.out.cell 3 rfl
  have s4 := HS3.out.cell 4 rfl
  have s5 := HS3.out.cell 5 rfl
  have s6 := HS3.out.cell 6 rfl
  go_upto_block 0 with fail
  clear s0 s1 s2 s3 s4 s5 s6
  generalize ((w.alloc (.cells #[.int .u8 5, .int .i64 th, .int .i64 tx, .int .i64 at_, .int .i64 v, .int .i64 x, .int .u8 why] 23)).alloc (.cells #[.int .u8 0, .int .i64 0, .int .i64 0, .int .i64 0, .int .i64 0, .int .i64 0, .int .u8 0] 23)).alloc (.cells #[.int .u8 5, .int .i64 th, .int .i64 0, .int .i64 0, .int .i64 0, .int .i64 0, .int .u8 0] 23) = W3 at HB3 HS3 HZ3 HD3 ⊢
  have HZ4 := hid (HZ3.out.set_other ⟨w.heap.size + 1 + 1, 4, none⟩ (.int .i64 v) (by dsimp only; omega))
  have HD4 := hid (HD3.out.set 4 (.int .i64 v))
  have HB4 := hid (HB3.out.setCell (p := ⟨w.heap.size + 1 + 1, 4, none⟩) (by dsimp only; omega) (.int .i64 v))
  simp only [List.setIfInBounds_toArray, List.set_cons_succ, List.set_cons_zero] at HD4
  have s := HS3.out.cell 4 rfl
  have d := HD3.out.cell 4 rfl
  have g := HD3.out.free 4
  obtain ⟨W5, hW5⟩ : ∃ W, W3.setCell ⟨w.heap.size + 1 + 1, 4, none⟩ (.int .i64 v) = W := ⟨_, rfl⟩
  rw [hW5] at HZ4 HD4 HB4
  clear HB3 HZ3 HD3 HS3
  have y0 := HD4.out.cell 0 rfl
  have y1 := HD4.out.cell 1 rfl
  have y2 := HD4.out.cell 2 rfl
  have y3 := HD4.out.cell 3 rfl
  have y4 := HD4.out.cell 4 rfl
  have y5 := HD4.out.cell 5 rfl
  have y6 := HD4.out.cell 6 rfl
  have z0 := HZ4.out.free 0
  have z1 := HZ4.out.free 1
  have z2 := HZ4.out.free 2
  have z3 := HZ4.out.free 3
  have z4 := HZ4.out.free 4
  have z5 := HZ4.out.free 5
  have z6 := HZ4.out.free 6
  have t0 := HZ4.out.cell 0 rfl
  have t1 := HZ4.out.cell 1 rfl
  have t2 := HZ4.out.cell 2 rfl
  have t3 := HZ4.out.cell 3 rfl
  have t4 := HZ4.out.cell 4 rfl
  have t5 := HZ4.out.cell 5 rfl
  have t6 := HZ4.out.cell 6 rfl
  have HBZ := hid (low7 HB4.out (b := w.heap.size + 1) (by omega) (.int .u8 5) (.int .i64 th) (.int .i64 0) (.int .i64 0) (.int .i64 v) (.int .i64 0) (.int .u8 0))
  have HRZ := hid (set7 HZ4.out (.int .u8 5) (.int .i64 th) (.int .i64 0) (.int .i64 0) (.int .i64 v) (.int .i64 0) (.int .u8 0))
  have q0 := HRZ.out.cell 0 rfl
  have q1 := HRZ.out.cell 1 rfl
  have q2 := HRZ.out.cell 2 rfl
  have q3 := HRZ.out.cell 3 rfl
  have q4 := HRZ.out.cell 4 rfl
  have q5 := HRZ.out.cell 5 rfl
  have q6 := HRZ.out.cell 6 rfl
  clear HB4 HZ4 HD4 HRZ
  go_wp2_with fail
  exact bodyPost_ret (v := .agg #[.int .u8 5, .int .i64 th, .int .i64 0, .int .i64 0, .int .i64 v, .int .i64 0, .int .u8 0]) (by simp [results, Tryd.results36, go_sem, q0, q1, q2, q3, q4, q5, q6]) rfl (by rw [HR.out]; exact ⟨rfl, HBZ.out⟩)
set_option maxRecDepth 100000 in
set_option maxHeartbeats 4000000 in
theorem rbare_7 (th tx at_ v x why : Int) (w : World) : Calls Tryd.prog 36 #[evA ⟨7, th, tx, at_, v, x, why⟩] w (RBareP ⟨7, th, tx, at_, v, x, why⟩ w) := by
  have HR : Hid ((.agg #[.int .u8 (bareE ⟨7, th, tx, at_, v, x, why⟩).kind, .int .i64 (bareE ⟨7, th, tx, at_, v, x, why⟩).th, .int .i64 (bareE ⟨7, th, tx, at_, v, x, why⟩).tx, .int .i64 (bareE ⟨7, th, tx, at_, v, x, why⟩).at_, .int .i64 (bareE ⟨7, th, tx, at_, v, x, why⟩).v, .int .i64 (bareE ⟨7, th, tx, at_, v, x, why⟩).x, .int .u8 (bareE ⟨7, th, tx, at_, v, x, why⟩).why] : Value) = .agg #[.int .u8 7, .int .i64 th, .int .i64 0, .int .i64 0, .int .i64 v, .int .i64 0, .int .u8 0]) := hid (by rfl)
  unfold RBareP
  dsimp only [evA]
  have HB3 : Hid (Below w.heap.size w (((w.alloc (.cells #[.int .u8 7, .int .i64 th, .int .i64 tx, .int .i64 at_, .int .i64 v, .int .i64 x, .int .u8 why] 23)).alloc (.cells #[.int .u8 0, .int .i64 0, .int .i64 0, .int .i64 0, .int .i64 0, .int .i64 0, .int .u8 0] 23)).alloc (.cells #[.int .u8 7, .int .i64 th, .int .i64 0, .int .i64 0, .int .i64 0, .int .i64 0, .int .u8 0] 23))) := hid (ext_alloc (ext_alloc (ext_alloc (ext_refl _) _) _) _)
  have HS3 : Hid (Blk (((w.alloc (.cells #[.int .u8 7, .int .i64 th, .int .i64 tx, .int .i64 at_, .int .i64 v, .int .i64 x, .int .u8 why] 23)).alloc (.cells #[.int .u8 0, .int .i64 0, .int .i64 0, .int .i64 0, .int .i64 0, .int .i64 0, .int .u8 0] 23)).alloc (.cells #[.int .u8 7, .int .i64 th, .int .i64 0, .int .i64 0, .int .i64 0, .int .i64 0, .int .u8 0] 23)) w.heap.size #[.int .u8 7, .int .i64 th, .int .i64 tx, .int .i64 at_, .int .i64 v, .int .i64 x, .int .u8 why] 23) := hid (((Blk.new _ _ _).alloc _).alloc _)
  have HZ3 : Hid (Blk (((w.alloc (.cells #[.int .u8 7, .int .i64 th, .int .i64 tx, .int .i64 at_, .int .i64 v, .int .i64 x, .int .u8 why] 23)).alloc (.cells #[.int .u8 0, .int .i64 0, .int .i64 0, .int .i64 0, .int .i64 0, .int .i64 0, .int .u8 0] 23)).alloc (.cells #[.int .u8 7, .int .i64 th, .int .i64 0, .int .i64 0, .int .i64 0, .int .i64 0, .int .u8 0] 23)) (w.heap.size + 1) #[.int .u8 0, .int .i64 0, .int .i64 0, .int .i64 0, .int .i64 0, .int .i64 0, .int .u8 0] 23) := hid ((Blk.new' _ _ _ (Array.size_push ..).symm).alloc _)
  have HD3 : Hid (Blk (((w.alloc (.cells #[.int .u8 7, .int .i64 th, .int .i64 tx, .int .i64 at_, .int .i64 v, .int .i64 x, .int .u8 why] 23)).alloc (.cells #[.int .u8 0, .int .i64 0, .int .i64 0, .int .i64 0, .int .i64 0, .int .i64 0, .int .u8 0] 23)).alloc (.cells #[.int .u8 7, .int .i64 th, .int .i64 0, .int .i64 0, .int .i64 0, .int .i64 0, .int .u8 0] 23)) (w.heap.size + 1 + 1) #[.int .u8 7, .int .i64 th, .int .i64 0, .int .i64 0, .int .i64 0, .int .i64 0, .int .u8 0] 23) := hid (Blk.new' _ _ _ (size2 _ _ _))
  go_enter Tryd.func36, Tryd.ntmps36
  have s0 := HS3.out.cell 0 rfl
  have s1 := HS3.out.cell 1 rfl
  have s2 := HS3.out.cell 2 rfl
  have s3 := HS3.out.cell 3 rfl
  have s4 := HS3.out.cell 4 rfl
  have s5 := HS3.out.cell 5 rfl
  have s6 := HS3.out.cell 6 rfl
  go_upto_block 0 with fail
  clear s0 s1 s2 s3 s4 s5 s6
  generalize ((w.alloc (.cells #[.int .u8 7, .int .i64 th, .int .i64 tx, .int .i64 at_, .int .i64 v, .int .i64 x, .int .u8 why] 23)).alloc (.cells #[.int .u8 0, .int .i64 0, .int .i64 0, .int .i64 0, .int .i64 0, .int .i64 0, .int .u8 0] 23)).alloc (.cells #[.int .u8 7, .int .i64 th, .int .i64 0, .int .i64 0, .int .i64 0, .int .i64 0, .int .u8 0] 23) = W3 at HB3 HS3 HZ3 HD3 ⊢
  have HZ4 := hid (HZ3.out.set_other ⟨w.heap.size + 1 + 1, 4, none⟩ (.int .i64 v) (by dsimp only; omega))
  have HD4 := hid (HD3.out.set 4 (.int .i64 v))
  have HB4 := hid (HB3.out.setCell (p := ⟨w.heap.size + 1 + 1, 4, none⟩) (by dsimp only; omega) (.int .i64 v))
  simp only [List.setIfInBounds_toArray, List.set_cons_succ, List.set_cons_zero] at HD4
  have s := HS3.out.cell 4 rfl
  have d := HD3.out.cell 4 rfl
  have g := HD3.out.free 4
  obtain ⟨W5, hW5⟩ : ∃ W, W3.setCell ⟨w.heap.size + 1 + 1, 4, none⟩ (.int .i64 v) = W := ⟨_, rfl⟩
  rw [hW5] at HZ4 HD4 HB4
  clear HB3 HZ3 HD3 HS3
  have y0 := HD4.out.cell 0 rfl
  have y1 := HD4.out.cell 1 rfl
  have y2 := HD4.out.cell 2 rfl
  have y3 := HD4.out.cell 3 rfl
  have y4 := HD4.out.cell 4 rfl
  have y5 := HD4.out.cell 5 rfl
  have y6 := HD4.out.cell 6 rfl
  have z0 := HZ4.out.free 0
  have z1 := HZ4.out.free 1
  have z2 := HZ4.out.free 2
  have z3 := HZ4.out.free 3
  have z4 := HZ4.out.free 4
  have z5 := HZ4.out.free 5
  have z6 := HZ4.out.free 6
  have t0 := HZ4.out.cell 0 rfl
  have t1 := HZ4.out.cell 1 rfl
  have t2 := HZ4.out.cell 2 rfl
  have t3 := HZ4.out.cell 3 rfl
  have t4 := HZ4.out.cell 4 rfl
  have t5 := HZ4.out.cell 5 rfl
  have t6 := HZ4.out.cell 6 rfl
  have HBZ := hid (low7 HB4.out (b := w.heap.size + 1) (by omega) (.int .u8 7) (.int .i64 th) (.int .i64 0) (.int .i64 0) (.int .i64 v) (.int .i64 0) (.int .u8 0))
  have HRZ := hid (set7 HZ4.out (.int .u8 7) (.int .i64 th) (.int .i64 0) (.int .i64 0) (.int .i64 v) (.int .i64 0) (.int .u8 0))
  have q0 := HRZ.out.cell 0 rfl
  have q1 := HRZ.out.cell 1 rfl
  have q2 := HRZ.out.cell 2 rfl
  have q3 := HRZ.out.cell 3 rfl
  have q4 := HRZ.out.cell 4 rfl
  have q5 := HRZ.out.cell 5 rfl
  have q6 := HRZ.out.cell 6 rfl
  clear HB4 HZ4 HD4 HRZ
  go_wp2_with fail
  exact bodyPost_ret (v := .agg #[.int .u8 7, .int .i64 th, .int .i64 0, .int .i64 0, .int .i64 v, .int .i64 0, .int .u8 0]) (by simp [results, Tryd.results36, go_sem, q0, q1, q2, q3, q4, q5, q6]) rfl (by rw [HR.out]; exact ⟨rfl, HBZ.out⟩)
set_option maxRecDepth 100000 in
set_option maxHeartbeats 4000000 in
theorem rbare_no (kind th tx at_ v x why : Int) (hk : ¬ (kind = 1 ∨ kind = 2 ∨ kind = 3 ∨ kind = 4 ∨ kind = 5 ∨ kind = 6 ∨ kind = 7 ∨ kind = 8 ∨ kind = 9 ∨ kind = 10 ∨ kind = 11)) (w : World) : Calls Tryd.prog 36 #[evA ⟨kind, th, tx, at_, v, x, why⟩] w (RBareP ⟨kind, th, tx, at_, v, x, why⟩ w) := by
  have HR : Hid ((.agg #[.int .u8 (bareE ⟨kind, th, tx, at_, v, x, why⟩).kind, .int .i64 (bareE ⟨kind, th, tx, at_, v, x, why⟩).th, .int .i64 (bareE ⟨kind, th, tx, at_, v, x, why⟩).tx, .int .i64 (bareE ⟨kind, th, tx, at_, v, x, why⟩).at_, .int .i64 (bareE ⟨kind, th, tx, at_, v, x, why⟩).v, .int .i64 (bareE ⟨kind, th, tx, at_, v, x, why⟩).x, .int .u8 (bareE ⟨kind, th, tx, at_, v, x, why⟩).why] : Value) = .agg #[.int .u8 kind, .int .i64 th, .int .i64 0, .int .i64 0, .int .i64 0, .int .i64 0, .int .u8 0]) := hid (by unfold bareE; dsimp only; rw [if_neg (by omega), if_neg (by omega), if_neg (by omega), if_neg (by omega), if_neg (by omega), if_neg (by omega)])
  unfold RBareP
  dsimp only [evA]
  have HB3 : Hid (Below w.heap.size w (((w.alloc (.cells #[.int .u8 kind, .int .i64 th, .int .i64 tx, .int .i64 at_, .int .i64 v, .int .i64 x, .int .u8 why] 23)).alloc (.cells #[.int .u8 0, .int .i64 0, .int .i64 0, .int .i64 0, .int .i64 0, .int .i64 0, .int .u8 0] 23)).alloc (.cells #[.int .u8 kind, .int .i64 th, .int .i64 0, .int .i64 0, .int .i64 0, .int .i64 0, .int .u8 0] 23))) := hid (ext_alloc (ext_alloc (ext_alloc (ext_refl _) _) _) _)
  have HS3 : Hid (Blk (((w.alloc (.cells #[.int .u8 kind, .int .i64 th, .int .i64 tx, .int .i64 at_, .int .i64 v, .int .i64 x, .int .u8 why] 23)).alloc (.cells #[.int .u8 0, .int .i64 0, .int .i64 0, .int .i64 0, .int .i64 0, .int .i64 0, .int .u8 0] 23)).alloc (.cells #[.int .u8 kind, .int .i64 th, .int .i64 0, .int .i64 0, .int .i64 0, .int .i64 0, .int .u8 0] 23)) w.heap.size #[.int .u8 kind, .int .i64 th, .int .i64 tx, .int .i64 at_, .int .i64 v, .int .i64 x, .int .u8 why] 23) := hid (((Blk.new _ _ _).alloc _).alloc _)
  have HZ3 : Hid (Blk (((w.alloc (.cells #[.int .u8 kind, .int .i64 th, .int .i64 tx, .int .i64 at_, .int .i64 v, .int .i64 x, .int .u8 why] 23)).alloc (.cells #[.int .u8 0, .int .i64 0, .int .i64 0, .int .i64 0, .int .i64 0, .int .i64 0, .int .u8 0] 23)).alloc (.cells #[.int .u8 kind, .int .i64 th, .int .i64 0, .int .i64 0, .int .i64 0, .int .i64 0, .int .u8 0] 23)) (w.heap.size + 1) #[.int .u8 0, .int .i64 0, .int .i64 0, .int .i64 0, .int .i64 0, .int .i64 0, .int .u8 0] 23) := hid ((Blk.new' _ _ _ (Array.size_push ..).symm).alloc _)
  have HD3 : Hid (Blk (((w.alloc (.cells #[.int .u8 kind, .int .i64 th, .int .i64 tx, .int .i64 at_, .int .i64 v, .int .i64 x, .int .u8 why] 23)).alloc (.cells #[.int .u8 0, .int .i64 0, .int .i64 0, .int .i64 0, .int .i64 0, .int .i64 0, .int .u8 0] 23)).alloc (.cells #[.int .u8 kind, .int .i64 th, .int .i64 0, .int .i64 0, .int .i64 0, .int .i64 0, .int .u8 0] 23)) (w.heap.size + 1 + 1) #[.int .u8 kind, .int .i64 th, .int .i64 0, .int .i64 0, .int .i64 0, .int .i64 0, .int .u8 0] 23) := hid (Blk.new' _ _ _ (size2 _ _ _))
  have k1 : (kind == 1) = false := beq_eq_false_iff_ne.2 (by omega)
  have k2 : (kind == 2) = false := beq_eq_false_iff_ne.2 (by omega)
  have k3 : (kind == 3) = false := beq_eq_false_iff_ne.2 (by omega)
  have k4 : (kind == 4) = false := beq_eq_false_iff_ne.2 (by omega)
  have k5 : (kind == 5) = false := beq_eq_false_iff_ne.2 (by omega)
  have k6 : (kind == 6) = false := beq_eq_false_iff_ne.2 (by omega)
  have k7 : (kind == 7) = false := beq_eq_false_iff_ne.2 (by omega)
  have k8 : (kind == 8) = false := beq_eq_false_iff_ne.2 (by omega)
  have k9 : (kind == 9) = false := beq_eq_false_iff_ne.2 (by omega)
  have k10 : (kind == 10) = false := beq_eq_false_iff_ne.2 (by omega)
  have k11 : (kind == 11) = false := beq_eq_false_iff_ne.2 (by omega)
  clear hk
  go_enter Tryd.func36, Tryd.ntmps36
  have s0 := HS3.out.cell 0 rfl
  have s1 := HS3.out.cell 1 rfl
  have s2 := HS3.out.cell 2 rfl
  have s3 := HS3.out.cell 3 rfl
  have s4 := HS3.out.cell 4 rfl
  have s5 := HS3.out.cell 5 rfl
  have s6 := HS3.out.cell 6 rfl
  go_upto_block 0 with fail
  clear s0 s1 s2 s3 s4 s5 s6
  generalize ((w.alloc (.cells #[.int .u8 kind, .int .i64 th, .int .i64 tx, .int .i64 at_, .int .i64 v, .int .i64 x, .int .u8 why] 23)).alloc (.cells #[.int .u8 0, .int .i64 0, .int .i64 0, .int .i64 0, .int .i64 0, .int .i64 0, .int .u8 0] 23)).alloc (.cells #[.int .u8 kind, .int .i64 th, .int .i64 0, .int .i64 0, .int .i64 0, .int .i64 0, .int .u8 0] 23) = W3 at HB3 HS3 HZ3 HD3 ⊢
  have y0 := HD3.out.cell 0 rfl
  have y1 := HD3.out.cell 1 rfl
  have y2 := HD3.out.cell 2 rfl
  have y3 := HD3.out.cell 3 rfl
  have y4 := HD3.out.cell 4 rfl
  have y5 := HD3.out.cell 5 rfl
  have y6 := HD3.out.cell 6 rfl
  have z0 := HZ3.out.free 0
  have z1 := HZ3.out.free 1
  have z2 := HZ3.out.free 2
  have z3 := HZ3.out.free 3
  have z4 := HZ3.out.free 4
  have z5 := HZ3.out.free 5
  have z6 := HZ3.out.free 6
  have t0 := HZ3.out.cell 0 rfl
  have t1 := HZ3.out.cell 1 rfl
  have t2 := HZ3.out.cell 2 rfl
  have t3 := HZ3.out.cell 3 rfl
  have t4 := HZ3.out.cell 4 rfl
  have t5 := HZ3.out.cell 5 rfl
  have t6 := HZ3.out.cell 6 rfl
  have HBZ := hid (low7 HB3.out (b := w.heap.size + 1) (by omega) (.int .u8 kind) (.int .i64 th) (.int .i64 0) (.int .i64 0) (.int .i64 0) (.int .i64 0) (.int .u8 0))
  have HRZ := hid (set7 HZ3.out (.int .u8 kind) (.int .i64 th) (.int .i64 0) (.int .i64 0) (.int .i64 0) (.int .i64 0) (.int .u8 0))
  have q0 := HRZ.out.cell 0 rfl
  have q1 := HRZ.out.cell 1 rfl
  have q2 := HRZ.out.cell 2 rfl
  have q3 := HRZ.out.cell 3 rfl
  have q4 := HRZ.out.cell 4 rfl
  have q5 := HRZ.out.cell 5 rfl
  have q6 := HRZ.out.cell 6 rfl
  clear HB3 HZ3 HD3 HRZ
  have kk := HS3.out.cell 0 rfl
  go_wp2_with fail
  exact bodyPost_ret (v := .agg #[.int .u8 kind, .int .i64 th, .int .i64 0, .int .i64 0, .int .i64 0, .int .i64 0, .int .u8 0]) (by simp [results, Tryd.results36, go_sem, q0, q1, q2, q3, q4, q5, q6]) rfl (by rw [HR.out]; exact ⟨rfl, HBZ.out⟩)
theorem rbare_any (e : Ev) (w : World) : Calls Tryd.prog 36 #[evA e] w (RBareP e w) := by
  obtain ⟨kind, th, tx, at_, v, x, why⟩ := e
  by_cases hk : ¬ (kind = 1 ∨ kind = 2 ∨ kind = 3 ∨ kind = 4 ∨ kind = 5 ∨ kind = 6 ∨ kind = 7 ∨ kind = 8 ∨ kind = 9 ∨ kind = 10 ∨ kind = 11)
  · exact rbare_no kind th tx at_ v x why hk w
  · rcases Classical.not_not.1 hk with rfl | rfl | rfl | rfl | rfl | rfl | rfl | rfl | rfl | rfl | rfl
    · exact rbare_1 th tx at_ v x why w
    · exact rbare_2 th tx at_ v x why w
    · exact rbare_3 th tx at_ v x why w
    · exact rbare_4 th tx at_ v x why w
    · exact rbare_5 th tx at_ v x why w
    · exact rbare_6 th tx at_ v x why w
    · exact rbare_7 th tx at_ v x why w
    · exact rbare_8 th tx at_ v x why w
    · exact rbare_9 th tx at_ v x why w
    · exact rbare_10 th tx at_ v x why w
    · exact rbare_11 th tx at_ v x why w
end Go.Proofs.YtlbpollckiidlaaDoor
