/-
  Walk: the document's bare: an event with what its Kind has alone. (Printed: tools/gen_evr2b.py.)
-/
import Derived.Test.YtokkafiphchejaaDoorEvR
import Derived.Test.YtokkafiphchejaaDoorReg6
import Derived.Deep.DeepCutAuto
import Derived.Deep.CutBlock
namespace Go.Proofs.YtokkafiphchejaaDoor
set_option linter.unusedVariables false
set_option linter.unusedSimpArgs false
set_option linter.unusedVariables false
open Go Go.RowKit
theorem TwoSt.blk {W0 w' : World} {b p q m n d : Nat} {x y : Value} {l : Nat → Bool} {cs : Array Value} {t : TypeId} (hne : d ≠ b) (H : TwoSt W0 b p q x y m n l w') (h : Blk W0 d cs t) : Blk w' d cs t := by
  rw [H.is]
  split
  · exact (h.set_other ⟨b, p, none⟩ x hne).set_other ⟨b, q, none⟩ y hne
  · split
    · exact h.set_other ⟨b, p, none⟩ x hne
    · exact h
def RBareP (e : Ev) (w : World) (e' : Ending) (w' : World) : Prop := e' = .returned (.agg #[.int .u8 (bareE e).kind, .int .i64 (bareE e).th, .int .i64 (bareE e).tx, .int .i64 (bareE e).at_, .int .i64 (bareE e).v, .int .i64 (bareE e).x, .int .u8 (bareE e).why]) ∧ Below w.heap.size w w'
set_option maxRecDepth 100000 in
set_option maxHeartbeats 8000000 in
theorem rbare_any (e : Ev) (w : World) : Calls Tryd.prog 77 #[evA e] w (RBareP e w) := by
  obtain ⟨kind, th, tx, at_, v, x, why⟩ := e
  unfold RBareP
  dsimp only [evA]
  obtain ⟨W3, hW3⟩ : ∃ W3, W3 = ((w.alloc (.cells #[.int .u8 kind, .int .i64 th, .int .i64 tx, .int .i64 at_, .int .i64 v, .int .i64 x, .int .u8 why] 33)).alloc (.cells #[.int .u8 0, .int .i64 0, .int .i64 0, .int .i64 0, .int .i64 0, .int .i64 0, .int .u8 0] 33)).alloc (.cells #[.int .u8 kind, .int .i64 th, .int .i64 0, .int .i64 0, .int .i64 0, .int .i64 0, .int .u8 0] 33) := ⟨_, rfl⟩
  have HS3 : Hid (Blk W3 w.heap.size #[.int .u8 kind, .int .i64 th, .int .i64 tx, .int .i64 at_, .int .i64 v, .int .i64 x, .int .u8 why] 33) := hid (by rw [hW3]; exact ((Blk.new _ _ _).alloc _).alloc _)
  have HZ3 : Hid (Blk W3 (w.heap.size + 1) #[.int .u8 0, .int .i64 0, .int .i64 0, .int .i64 0, .int .i64 0, .int .i64 0, .int .u8 0] 33) := hid (by rw [hW3]; exact (Blk.new' _ _ _ (by rw [World.size_alloc])).alloc _)
  have HD3 : Hid (Blk W3 (w.heap.size + 1 + 1) #[.int .u8 kind, .int .i64 th, .int .i64 0, .int .i64 0, .int .i64 0, .int .i64 0, .int .u8 0] 33) := hid (by rw [hW3]; exact Blk.new' _ _ _ (by rw [World.size_alloc, World.size_alloc]))
  have HB3 : Hid (Below w.heap.size w W3) := hid (by rw [hW3]; exact ext_alloc (ext_alloc (ext_alloc (ext_refl _) _) _) _)
  go_enter Tryd.func77, Tryd.ntmps77
  have k0 := HS3.out.cell 0 rfl
  rw [hW3] at k0
  go_upto_block 0 with fail
  rw [← hW3]
  clear hW3 k0
  go_cut [] (fun W => Hid (Blk W (w.heap.size + 1 + 1) #[.int .u8 (bareE ⟨kind, th, tx, at_, v, x, why⟩).kind, .int .i64 (bareE ⟨kind, th, tx, at_, v, x, why⟩).th, .int .i64 (bareE ⟨kind, th, tx, at_, v, x, why⟩).tx, .int .i64 (bareE ⟨kind, th, tx, at_, v, x, why⟩).at_, .int .i64 (bareE ⟨kind, th, tx, at_, v, x, why⟩).v, .int .i64 (bareE ⟨kind, th, tx, at_, v, x, why⟩).x, .int .u8 (bareE ⟨kind, th, tx, at_, v, x, why⟩).why] 33) ∧ Hid (Blk W (w.heap.size + 1) #[.int .u8 0, .int .i64 0, .int .i64 0, .int .i64 0, .int .i64 0, .int .i64 0, .int .u8 0] 33) ∧ Hid (Below w.heap.size w W))
  case first =>
    have s3 := HS3.out.cell 3 (v := .int .i64 at_) rfl
    have s4 := HS3.out.cell 4 (v := .int .i64 v) rfl
    by_cases k1 : kind = 1
    · subst k1
      have HRB : Hid (bareE ⟨1, th, tx, at_, v, x, why⟩ = ⟨1, th, tx, 0, v, 0, 0⟩) := hid (by unfold bareE; simp)
      clear s3 s4
      go_wp2_with fail
      obtain ⟨W4, hW4⟩ : ∃ W, W = W3.drew := ⟨_, rfl⟩
      have HB4 : Hid (Below w.heap.size w W4) := hid (by rw [hW4]; exact ext_drew HB3.out)
      have HS4 := hid (show Blk W4 _ _ _ by rw [hW4]; exact HS3.out.drew)
      have HZ4 := hid (show Blk W4 _ _ _ by rw [hW4]; exact HZ3.out.drew)
      have HD4 := hid (show Blk W4 _ _ _ by rw [hW4]; exact HD3.out.drew)
      have h00 : TwoSt W4 (w.heap.size + 1 + 1) 2 4 (.int .i64 tx) (.int .i64 v) 5 7 (fun _ => false) W3.drew := by rw [← hW4]; exact TwoSt.start
      clear hW4 HB3 HS3 HZ3 HD3
      apply wp_region_valsJ [.pointer (some ⟨w.heap.size, 2, none⟩), .int .i64 tx, .pointer (some ⟨w.heap.size, 4, none⟩), .int .i64 v, .pointer (some ⟨(w.heap.size + 1 + 1), 2, none⟩), undef, .pointer (some ⟨(w.heap.size + 1 + 1), 4, none⟩), undef] (TwoSt W4 (w.heap.size + 1 + 1) 2 4 (.int .i64 tx) (.int .i64 v) 5 7)
      focus (simp [putAll, dstOf, Act.put, List.getD]; rfl)
      case hm => kernel_rfl
      case hd => kernel_rfl
      case hb => kernel_rfl
      case hdep => kernel_rfl
      case hsel => kernel_rfl
      case hng => kernel_rfl
      case hgv => kernel_rfl
      case hsz => kernel_rfl
      case hext => exact fun l l' w' h H => H.ext (k := 8) (by omega) (by omega) h
      case h0 => exact h00
      case hstep =>
        refine ⟨?_, ?_, ?_, ?_, ?_, ?_, ?_, ?_, trivial⟩
        all_goals (intro l w' hl hdp hJ; rw [if_pos (by kernel_rfl)]; intro K Qp hK)
        · have HJ := hid hJ; clear hJ; go_simp; exact hK _ (HJ.out.other 0 (by omega) (by omega))
        · have c0 := (hJ.blk (by omega) HS4.out).cell 2 rfl; have HJ := hid hJ; clear hJ; go_simp; exact hK _ (HJ.out.other 1 (by omega) (by omega))
        · have HJ := hid hJ; clear hJ; go_simp; exact hK _ (HJ.out.other 2 (by omega) (by omega))
        · have c0 := (hJ.blk (by omega) HS4.out).cell 4 rfl; have HJ := hid hJ; clear hJ; go_simp; exact hK _ (HJ.out.other 3 (by omega) (by omega))
        · have HJ := hid hJ; clear hJ; go_simp; exact hK _ (HJ.out.other 4 (by omega) (by omega))
        · obtain ⟨rfl, hn⟩ := hJ.first (by omega) hl
          have HN := hid hn
          have c0 := HD4.out.cell 2 rfl
          have f0 := HD4.out.free 2
          clear hJ hn
          go_simp
          exact hK _ HN.out
        · have HJ := hid hJ; clear hJ; go_simp; exact hK _ (HJ.out.other 6 (by omega) (by omega))
        · obtain ⟨rfl, hn⟩ := hJ.second (by omega) (hdp 5 (by kernel_rfl)) hl
          have HN := hid hn
          have c0 := HD4.out.cell 4 rfl
          have f0 := HD4.out.free 4
          have c1 := (HD4.out.set 2 (.int .i64 tx)).cell 4 rfl
          have f1 := (HD4.out.set 2 (.int .i64 tx)).free 4
          clear hJ hn
          go_simp
          exact hK _ HN.out
      case hdone =>
        intro w' hJ
        obtain rfl := hJ.done
        have HZ5 := hid ((HZ4.out.set_other ⟨(w.heap.size + 1 + 1), 2, none⟩ (.int .i64 tx) (by dsimp only; omega)).set_other ⟨(w.heap.size + 1 + 1), 4, none⟩ (.int .i64 v) (by dsimp only; omega))
        have HD5 := hid ((HD4.out.set 2 (.int .i64 tx)).set 4 (.int .i64 v))
        have HB5 := hid ((HB4.out.setCell (p := ⟨(w.heap.size + 1 + 1), 2, none⟩) (by dsimp only; omega) (.int .i64 tx)).setCell (p := ⟨(w.heap.size + 1 + 1), 4, none⟩) (by dsimp only; omega) (.int .i64 v))
        clear hJ h00 HS4 HZ4 HD4 HB4
        go_wp2_with fail
        go_meet
        exact ⟨hid (by rw [HRB.out]; simpa using HD5.out), HZ5, HB5⟩
    by_cases k2 : kind = 2
    · subst k2
      have HRB : Hid (bareE ⟨2, th, tx, at_, v, x, why⟩ = ⟨2, th, 0, at_, v, 0, 0⟩) := hid (by unfold bareE; simp)
      clear s3 s4
      go_wp2_with fail
      obtain ⟨W4, hW4⟩ : ∃ W, W = W3.drew := ⟨_, rfl⟩
      have HB4 : Hid (Below w.heap.size w W4) := hid (by rw [hW4]; exact ext_drew HB3.out)
      have HS4 := hid (show Blk W4 _ _ _ by rw [hW4]; exact HS3.out.drew)
      have HZ4 := hid (show Blk W4 _ _ _ by rw [hW4]; exact HZ3.out.drew)
      have HD4 := hid (show Blk W4 _ _ _ by rw [hW4]; exact HD3.out.drew)
      have h00 : TwoSt W4 (w.heap.size + 1 + 1) 3 4 (.int .i64 at_) (.int .i64 v) 5 7 (fun _ => false) W3.drew := by rw [← hW4]; exact TwoSt.start
      clear hW4 HB3 HS3 HZ3 HD3
      apply wp_region_valsJ [.pointer (some ⟨w.heap.size, 3, none⟩), .int .i64 at_, .pointer (some ⟨w.heap.size, 4, none⟩), .int .i64 v, .pointer (some ⟨(w.heap.size + 1 + 1), 3, none⟩), undef, .pointer (some ⟨(w.heap.size + 1 + 1), 4, none⟩), undef] (TwoSt W4 (w.heap.size + 1 + 1) 3 4 (.int .i64 at_) (.int .i64 v) 5 7)
      focus (simp [putAll, dstOf, Act.put, List.getD]; rfl)
      case hm => kernel_rfl
      case hd => kernel_rfl
      case hb => kernel_rfl
      case hdep => kernel_rfl
      case hsel => kernel_rfl
      case hng => kernel_rfl
      case hgv => kernel_rfl
      case hsz => kernel_rfl
      case hext => exact fun l l' w' h H => H.ext (k := 8) (by omega) (by omega) h
      case h0 => exact h00
      case hstep =>
        refine ⟨?_, ?_, ?_, ?_, ?_, ?_, ?_, ?_, trivial⟩
        all_goals (intro l w' hl hdp hJ; rw [if_pos (by kernel_rfl)]; intro K Qp hK)
        · have HJ := hid hJ; clear hJ; go_simp; exact hK _ (HJ.out.other 0 (by omega) (by omega))
        · have c0 := (hJ.blk (by omega) HS4.out).cell 3 rfl; have HJ := hid hJ; clear hJ; go_simp; exact hK _ (HJ.out.other 1 (by omega) (by omega))
        · have HJ := hid hJ; clear hJ; go_simp; exact hK _ (HJ.out.other 2 (by omega) (by omega))
        · have c0 := (hJ.blk (by omega) HS4.out).cell 4 rfl; have HJ := hid hJ; clear hJ; go_simp; exact hK _ (HJ.out.other 3 (by omega) (by omega))
        · have HJ := hid hJ; clear hJ; go_simp; exact hK _ (HJ.out.other 4 (by omega) (by omega))
        · obtain ⟨rfl, hn⟩ := hJ.first (by omega) hl
          have HN := hid hn
          have c0 := HD4.out.cell 3 rfl
          have f0 := HD4.out.free 3
          clear hJ hn
          go_simp
          exact hK _ HN.out
        · have HJ := hid hJ; clear hJ; go_simp; exact hK _ (HJ.out.other 6 (by omega) (by omega))
        · obtain ⟨rfl, hn⟩ := hJ.second (by omega) (hdp 5 (by kernel_rfl)) hl
          have HN := hid hn
          have c0 := HD4.out.cell 4 rfl
          have f0 := HD4.out.free 4
          have c1 := (HD4.out.set 3 (.int .i64 at_)).cell 4 rfl
          have f1 := (HD4.out.set 3 (.int .i64 at_)).free 4
          clear hJ hn
          go_simp
          exact hK _ HN.out
      case hdone =>
        intro w' hJ
        obtain rfl := hJ.done
        have HZ5 := hid ((HZ4.out.set_other ⟨(w.heap.size + 1 + 1), 3, none⟩ (.int .i64 at_) (by dsimp only; omega)).set_other ⟨(w.heap.size + 1 + 1), 4, none⟩ (.int .i64 v) (by dsimp only; omega))
        have HD5 := hid ((HD4.out.set 3 (.int .i64 at_)).set 4 (.int .i64 v))
        have HB5 := hid ((HB4.out.setCell (p := ⟨(w.heap.size + 1 + 1), 3, none⟩) (by dsimp only; omega) (.int .i64 at_)).setCell (p := ⟨(w.heap.size + 1 + 1), 4, none⟩) (by dsimp only; omega) (.int .i64 v))
        clear hJ h00 HS4 HZ4 HD4 HB4
        go_wp2_with fail
        go_meet
        exact ⟨hid (by rw [HRB.out]; simpa using HD5.out), HZ5, HB5⟩
    by_cases k3 : kind = 3 ∨ kind = 8
    · rcases k3 with rfl | rfl
      all_goals (
        have HRB3 : Hid (bareE ⟨3, th, tx, at_, v, x, why⟩ = ⟨3, th, 0, at_, 0, x, 0⟩) := hid (by unfold bareE; simp)
        have HRB8 : Hid (bareE ⟨8, th, tx, at_, v, x, why⟩ = ⟨8, th, 0, at_, 0, x, 0⟩) := hid (by unfold bareE; simp)
        clear s3 s4
        go_wp2_with fail
        obtain ⟨W4, hW4⟩ : ∃ W, W = W3.drew := ⟨_, rfl⟩
        have HB4 : Hid (Below w.heap.size w W4) := hid (by rw [hW4]; exact ext_drew HB3.out)
        have HS4 := hid (show Blk W4 _ _ _ by rw [hW4]; exact HS3.out.drew)
        have HZ4 := hid (show Blk W4 _ _ _ by rw [hW4]; exact HZ3.out.drew)
        have HD4 := hid (show Blk W4 _ _ _ by rw [hW4]; exact HD3.out.drew)
        have h00 : TwoSt W4 (w.heap.size + 1 + 1) 3 5 (.int .i64 at_) (.int .i64 x) 5 7 (fun _ => false) W3.drew := by rw [← hW4]; exact TwoSt.start
        clear hW4 HB3 HS3 HZ3 HD3
        apply wp_region_valsJ [.pointer (some ⟨w.heap.size, 3, none⟩), .int .i64 at_, .pointer (some ⟨w.heap.size, 5, none⟩), .int .i64 x, .pointer (some ⟨(w.heap.size + 1 + 1), 3, none⟩), undef, .pointer (some ⟨(w.heap.size + 1 + 1), 5, none⟩), undef] (TwoSt W4 (w.heap.size + 1 + 1) 3 5 (.int .i64 at_) (.int .i64 x) 5 7)
        focus (simp [putAll, dstOf, Act.put, List.getD]; rfl)
        case hm => kernel_rfl
        case hd => kernel_rfl
        case hb => kernel_rfl
        case hdep => kernel_rfl
        case hsel => kernel_rfl
        case hng => kernel_rfl
        case hgv => kernel_rfl
        case hsz => kernel_rfl
        case hext => exact fun l l' w' h H => H.ext (k := 8) (by omega) (by omega) h
        case h0 => exact h00
        case hstep =>
          refine ⟨?_, ?_, ?_, ?_, ?_, ?_, ?_, ?_, trivial⟩
          all_goals (intro l w' hl hdp hJ; rw [if_pos (by kernel_rfl)]; intro K Qp hK)
          · have HJ := hid hJ; clear hJ; go_simp; exact hK _ (HJ.out.other 0 (by omega) (by omega))
          · have c0 := (hJ.blk (by omega) HS4.out).cell 3 rfl; have HJ := hid hJ; clear hJ; go_simp; exact hK _ (HJ.out.other 1 (by omega) (by omega))
          · have HJ := hid hJ; clear hJ; go_simp; exact hK _ (HJ.out.other 2 (by omega) (by omega))
          · have c0 := (hJ.blk (by omega) HS4.out).cell 5 rfl; have HJ := hid hJ; clear hJ; go_simp; exact hK _ (HJ.out.other 3 (by omega) (by omega))
          · have HJ := hid hJ; clear hJ; go_simp; exact hK _ (HJ.out.other 4 (by omega) (by omega))
          · obtain ⟨rfl, hn⟩ := hJ.first (by omega) hl
            have HN := hid hn
            have c0 := HD4.out.cell 3 rfl
            have f0 := HD4.out.free 3
            clear hJ hn
            go_simp
            exact hK _ HN.out
          · have HJ := hid hJ; clear hJ; go_simp; exact hK _ (HJ.out.other 6 (by omega) (by omega))
          · obtain ⟨rfl, hn⟩ := hJ.second (by omega) (hdp 5 (by kernel_rfl)) hl
            have HN := hid hn
            have c0 := HD4.out.cell 5 rfl
            have f0 := HD4.out.free 5
            have c1 := (HD4.out.set 3 (.int .i64 at_)).cell 5 rfl
            have f1 := (HD4.out.set 3 (.int .i64 at_)).free 5
            clear hJ hn
            go_simp
            exact hK _ HN.out
        case hdone =>
          intro w' hJ
          obtain rfl := hJ.done
          have HZ5 := hid ((HZ4.out.set_other ⟨(w.heap.size + 1 + 1), 3, none⟩ (.int .i64 at_) (by dsimp only; omega)).set_other ⟨(w.heap.size + 1 + 1), 5, none⟩ (.int .i64 x) (by dsimp only; omega))
          have HD5 := hid ((HD4.out.set 3 (.int .i64 at_)).set 5 (.int .i64 x))
          have HB5 := hid ((HB4.out.setCell (p := ⟨(w.heap.size + 1 + 1), 3, none⟩) (by dsimp only; omega) (.int .i64 at_)).setCell (p := ⟨(w.heap.size + 1 + 1), 5, none⟩) (by dsimp only; omega) (.int .i64 x))
          clear hJ h00 HS4 HZ4 HD4 HB4
          go_wp2_with fail
          go_meet
          exact ⟨hid (by first | (rw [HRB3.out]; simpa using HD5.out) | (rw [HRB8.out]; simpa using HD5.out)), HZ5, HB5⟩
      )
    by_cases k10 : kind = 10
    · subst k10
      have HRB : Hid (bareE ⟨10, th, tx, at_, v, x, why⟩ = ⟨10, th, 0, at_, 0, 0, why⟩) := hid (by unfold bareE; simp)
      clear s3 s4
      go_wp2_with fail
      obtain ⟨W4, hW4⟩ : ∃ W, W = W3.drew := ⟨_, rfl⟩
      have HB4 : Hid (Below w.heap.size w W4) := hid (by rw [hW4]; exact ext_drew HB3.out)
      have HS4 := hid (show Blk W4 _ _ _ by rw [hW4]; exact HS3.out.drew)
      have HZ4 := hid (show Blk W4 _ _ _ by rw [hW4]; exact HZ3.out.drew)
      have HD4 := hid (show Blk W4 _ _ _ by rw [hW4]; exact HD3.out.drew)
      have h00 : TwoSt W4 (w.heap.size + 1 + 1) 6 3 (.int .u8 why) (.int .i64 at_) 5 7 (fun _ => false) W3.drew := by rw [← hW4]; exact TwoSt.start
      clear hW4 HB3 HS3 HZ3 HD3
      apply wp_region_valsJ [.pointer (some ⟨w.heap.size, 6, none⟩), .int .u8 why, .pointer (some ⟨w.heap.size, 3, none⟩), .int .i64 at_, .pointer (some ⟨(w.heap.size + 1 + 1), 6, none⟩), undef, .pointer (some ⟨(w.heap.size + 1 + 1), 3, none⟩), undef] (TwoSt W4 (w.heap.size + 1 + 1) 6 3 (.int .u8 why) (.int .i64 at_) 5 7)
      focus (simp [putAll, dstOf, Act.put, List.getD]; rfl)
      case hm => kernel_rfl
      case hd => kernel_rfl
      case hb => kernel_rfl
      case hdep => kernel_rfl
      case hsel => kernel_rfl
      case hng => kernel_rfl
      case hgv => kernel_rfl
      case hsz => kernel_rfl
      case hext => exact fun l l' w' h H => H.ext (k := 8) (by omega) (by omega) h
      case h0 => exact h00
      case hstep =>
        refine ⟨?_, ?_, ?_, ?_, ?_, ?_, ?_, ?_, trivial⟩
        all_goals (intro l w' hl hdp hJ; rw [if_pos (by kernel_rfl)]; intro K Qp hK)
        · have HJ := hid hJ; clear hJ; go_simp; exact hK _ (HJ.out.other 0 (by omega) (by omega))
        · have c0 := (hJ.blk (by omega) HS4.out).cell 6 rfl; have HJ := hid hJ; clear hJ; go_simp; exact hK _ (HJ.out.other 1 (by omega) (by omega))
        · have HJ := hid hJ; clear hJ; go_simp; exact hK _ (HJ.out.other 2 (by omega) (by omega))
        · have c0 := (hJ.blk (by omega) HS4.out).cell 3 rfl; have HJ := hid hJ; clear hJ; go_simp; exact hK _ (HJ.out.other 3 (by omega) (by omega))
        · have HJ := hid hJ; clear hJ; go_simp; exact hK _ (HJ.out.other 4 (by omega) (by omega))
        · obtain ⟨rfl, hn⟩ := hJ.first (by omega) hl
          have HN := hid hn
          have c0 := HD4.out.cell 6 rfl
          have f0 := HD4.out.free 6
          clear hJ hn
          go_simp
          exact hK _ HN.out
        · have HJ := hid hJ; clear hJ; go_simp; exact hK _ (HJ.out.other 6 (by omega) (by omega))
        · obtain ⟨rfl, hn⟩ := hJ.second (by omega) (hdp 5 (by kernel_rfl)) hl
          have HN := hid hn
          have c0 := HD4.out.cell 3 rfl
          have f0 := HD4.out.free 3
          have c1 := (HD4.out.set 6 (.int .u8 why)).cell 3 rfl
          have f1 := (HD4.out.set 6 (.int .u8 why)).free 3
          clear hJ hn
          go_simp
          exact hK _ HN.out
      case hdone =>
        intro w' hJ
        obtain rfl := hJ.done
        have HZ5 := hid ((HZ4.out.set_other ⟨(w.heap.size + 1 + 1), 6, none⟩ (.int .u8 why) (by dsimp only; omega)).set_other ⟨(w.heap.size + 1 + 1), 3, none⟩ (.int .i64 at_) (by dsimp only; omega))
        have HD5 := hid ((HD4.out.set 6 (.int .u8 why)).set 3 (.int .i64 at_))
        have HB5 := hid ((HB4.out.setCell (p := ⟨(w.heap.size + 1 + 1), 6, none⟩) (by dsimp only; omega) (.int .u8 why)).setCell (p := ⟨(w.heap.size + 1 + 1), 3, none⟩) (by dsimp only; omega) (.int .i64 at_))
        clear hJ h00 HS4 HZ4 HD4 HB4
        go_wp2_with fail
        go_meet
        exact ⟨hid (by rw [HRB.out]; simpa using HD5.out), HZ5, HB5⟩
    by_cases k4 : kind = 4
    · subst k4
      have HRB : Hid (bareE ⟨4, th, tx, at_, v, x, why⟩ = ⟨4, th, 0, at_, 0, 0, 0⟩) := hid (by unfold bareE; simp)
      have c0 := HD3.out.cell 3 rfl
      have f0 := HD3.out.free 3
      go_wp2_with fail
      go_meet
      exact ⟨hid (by rw [HRB.out]; simpa using HD3.out.set 3 (.int .i64 at_)), hid (HZ3.out.set_other ⟨(w.heap.size + 1 + 1), 3, none⟩ _ (by dsimp only; omega)), hid (HB3.out.setCell (p := ⟨(w.heap.size + 1 + 1), 3, none⟩) (by dsimp only; omega) _)⟩
    by_cases k6 : kind = 6
    · subst k6
      have HRB : Hid (bareE ⟨6, th, tx, at_, v, x, why⟩ = ⟨6, th, 0, at_, 0, 0, 0⟩) := hid (by unfold bareE; simp)
      have c0 := HD3.out.cell 3 rfl
      have f0 := HD3.out.free 3
      go_wp2_with fail
      go_meet
      exact ⟨hid (by rw [HRB.out]; simpa using HD3.out.set 3 (.int .i64 at_)), hid (HZ3.out.set_other ⟨(w.heap.size + 1 + 1), 3, none⟩ _ (by dsimp only; omega)), hid (HB3.out.setCell (p := ⟨(w.heap.size + 1 + 1), 3, none⟩) (by dsimp only; omega) _)⟩
    by_cases k9 : kind = 9
    · subst k9
      have HRB : Hid (bareE ⟨9, th, tx, at_, v, x, why⟩ = ⟨9, th, 0, at_, 0, 0, 0⟩) := hid (by unfold bareE; simp)
      have c0 := HD3.out.cell 3 rfl
      have f0 := HD3.out.free 3
      go_wp2_with fail
      go_meet
      exact ⟨hid (by rw [HRB.out]; simpa using HD3.out.set 3 (.int .i64 at_)), hid (HZ3.out.set_other ⟨(w.heap.size + 1 + 1), 3, none⟩ _ (by dsimp only; omega)), hid (HB3.out.setCell (p := ⟨(w.heap.size + 1 + 1), 3, none⟩) (by dsimp only; omega) _)⟩
    by_cases k11 : kind = 11
    · subst k11
      have HRB : Hid (bareE ⟨11, th, tx, at_, v, x, why⟩ = ⟨11, th, 0, at_, 0, 0, 0⟩) := hid (by unfold bareE; simp)
      have c0 := HD3.out.cell 3 rfl
      have f0 := HD3.out.free 3
      go_wp2_with fail
      go_meet
      exact ⟨hid (by rw [HRB.out]; simpa using HD3.out.set 3 (.int .i64 at_)), hid (HZ3.out.set_other ⟨(w.heap.size + 1 + 1), 3, none⟩ _ (by dsimp only; omega)), hid (HB3.out.setCell (p := ⟨(w.heap.size + 1 + 1), 3, none⟩) (by dsimp only; omega) _)⟩
    by_cases k5 : kind = 5
    · subst k5
      have HRB : Hid (bareE ⟨5, th, tx, at_, v, x, why⟩ = ⟨5, th, 0, 0, v, 0, 0⟩) := hid (by unfold bareE; simp)
      have c0 := HD3.out.cell 4 rfl
      have f0 := HD3.out.free 4
      go_wp2_with fail
      go_meet
      exact ⟨hid (by rw [HRB.out]; simpa using HD3.out.set 4 (.int .i64 v)), hid (HZ3.out.set_other ⟨(w.heap.size + 1 + 1), 4, none⟩ _ (by dsimp only; omega)), hid (HB3.out.setCell (p := ⟨(w.heap.size + 1 + 1), 4, none⟩) (by dsimp only; omega) _)⟩
    by_cases k7 : kind = 7
    · subst k7
      have HRB : Hid (bareE ⟨7, th, tx, at_, v, x, why⟩ = ⟨7, th, 0, 0, v, 0, 0⟩) := hid (by unfold bareE; simp)
      have c0 := HD3.out.cell 4 rfl
      have f0 := HD3.out.free 4
      go_wp2_with fail
      go_meet
      exact ⟨hid (by rw [HRB.out]; simpa using HD3.out.set 4 (.int .i64 v)), hid (HZ3.out.set_other ⟨(w.heap.size + 1 + 1), 4, none⟩ _ (by dsimp only; omega)), hid (HB3.out.setCell (p := ⟨(w.heap.size + 1 + 1), 4, none⟩) (by dsimp only; omega) _)⟩
    have n1 : (kind == 1) = false := beq_eq_false_iff_ne.2 (by omega)
    have n2 : (kind == 2) = false := beq_eq_false_iff_ne.2 (by omega)
    have n3 : (kind == 3) = false := beq_eq_false_iff_ne.2 (by omega)
    have n8 : (kind == 8) = false := beq_eq_false_iff_ne.2 (by omega)
    have n4 : (kind == 4) = false := beq_eq_false_iff_ne.2 (by omega)
    have n6 : (kind == 6) = false := beq_eq_false_iff_ne.2 (by omega)
    have n9 : (kind == 9) = false := beq_eq_false_iff_ne.2 (by omega)
    have n11 : (kind == 11) = false := beq_eq_false_iff_ne.2 (by omega)
    have n5 : (kind == 5) = false := beq_eq_false_iff_ne.2 (by omega)
    have n7 : (kind == 7) = false := beq_eq_false_iff_ne.2 (by omega)
    have n10 : (kind == 10) = false := beq_eq_false_iff_ne.2 (by omega)
    have HRB : Hid (bareE ⟨kind, th, tx, at_, v, x, why⟩ = ⟨kind, th, 0, 0, 0, 0, 0⟩) := hid (by unfold bareE; simp at n1 n2 n3 n8 n4 n6 n9 n11 n5 n7 n10; simp [n1, n2, n3, n8, n4, n6, n9, n11, n5, n7, n10])
    clear k1 k2 k3 k10 k4 k6 k9 k11 k5 k7
    go_wp2_with fail
    go_meet
    exact ⟨hid (by rw [HRB.out]; exact HD3.out), HZ3, HB3⟩
  obtain ⟨HD, HZ, HB⟩ := hcut
  clear HS3 HZ3 HD3 HB3
  obtain ⟨B, hB⟩ : ∃ B, bareE ⟨kind, th, tx, at_, v, x, why⟩ = B := ⟨_, rfl⟩
  rw [hB] at HD
  obtain ⟨kd, h', tx', at', v', x', why'⟩ := B
  have HBE := hid hB
  clear hB
  dsimp only at HD
  have y0 := HD.out.cell 0 (v := .int .u8 kd) rfl
  have z0 := HZ.out.free 0
  have t0 := HZ.out.cell 0 (v := .int .u8 0) rfl
  have y1 := HD.out.cell 1 (v := .int .i64 h') rfl
  have z1 := HZ.out.free 1
  have t1 := HZ.out.cell 1 (v := .int .i64 0) rfl
  have y2 := HD.out.cell 2 (v := .int .i64 tx') rfl
  have z2 := HZ.out.free 2
  have t2 := HZ.out.cell 2 (v := .int .i64 0) rfl
  have y3 := HD.out.cell 3 (v := .int .i64 at') rfl
  have z3 := HZ.out.free 3
  have t3 := HZ.out.cell 3 (v := .int .i64 0) rfl
  have y4 := HD.out.cell 4 (v := .int .i64 v') rfl
  have z4 := HZ.out.free 4
  have t4 := HZ.out.cell 4 (v := .int .i64 0) rfl
  have y5 := HD.out.cell 5 (v := .int .i64 x') rfl
  have z5 := HZ.out.free 5
  have t5 := HZ.out.cell 5 (v := .int .i64 0) rfl
  have y6 := HD.out.cell 6 (v := .int .u8 why') rfl
  have z6 := HZ.out.free 6
  have t6 := HZ.out.cell 6 (v := .int .u8 0) rfl
  have HBZ := hid (low7 HB.out (b := w.heap.size + 1) (by omega) (.int .u8 kd) (.int .i64 h') (.int .i64 tx') (.int .i64 at') (.int .i64 v') (.int .i64 x') (.int .u8 why'))
  have HRZ := hid (set7 HZ.out (.int .u8 kd) (.int .i64 h') (.int .i64 tx') (.int .i64 at') (.int .i64 v') (.int .i64 x') (.int .u8 why'))
  have q0 := HRZ.out.cell 0 (v := .int .u8 kd) rfl
  have q1 := HRZ.out.cell 1 (v := .int .i64 h') rfl
  have q2 := HRZ.out.cell 2 (v := .int .i64 tx') rfl
  have q3 := HRZ.out.cell 3 (v := .int .i64 at') rfl
  have q4 := HRZ.out.cell 4 (v := .int .i64 v') rfl
  have q5 := HRZ.out.cell 5 (v := .int .i64 x') rfl
  have q6 := HRZ.out.cell 6 (v := .int .u8 why') rfl
  clear HB HZ HD HRZ
  go_wp2_with fail
  exact bodyPost_ret (v := .agg #[.int .u8 kd, .int .i64 h', .int .i64 tx', .int .i64 at', .int .i64 v', .int .i64 x', .int .u8 why']) (by simp [results, Tryd.results77, go_sem, q0, q1, q2, q3, q4, q5, q6]) rfl ⟨by rw [HBE.out], HBZ.out⟩
end Go.Proofs.YtokkafiphchejaaDoor
