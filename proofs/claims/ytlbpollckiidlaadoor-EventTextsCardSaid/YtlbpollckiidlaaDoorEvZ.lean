/-
  Walk: the law EventTexts.
-/
import Derived.Test.YtlbpollckiidlaaDoorEvD6
namespace Go.Proofs.YtlbpollckiidlaaDoor
set_option linter.unusedVariables false
set_option linter.unusedSimpArgs false
open Go Go.RowKit
set_option maxRecDepth 100000 in
set_option maxHeartbeats 4000000 in
theorem texts_any (e : Ev) (l : List UInt8) (w : World) (he : EvOk e) (hl : l.length ≤ 9223372036854775807) (hS : Std w) (hR : NamesR w) :
    Calls Tryd.prog 3 #[evA e, .string ⟨l.toArray⟩] w fun e' w' => e' = .returned (.bool true) ∧ Below w.heap.size w w' := by
  have HA := hid (fun W (hW : Below w.heap.size w W) => awake_any W (hS.below hW))
  have HW := hid (fun W (hW : Below w.heap.size w W) => show_any e W he (hS.below hW))
  have HWR := hid (fun W (hW : Below w.heap.size w W) => rshow_any e W he (hR.below hW))
  unfold RShowP at HWR
  generalize showR e = sr at HW HWR
  obtain ⟨sh, sx⟩ := sr
  dsimp only at HW HWR
  unfold strV at HW HWR
  obtain ⟨kind, th, tx, at_, v, x, why⟩ := e
  have HLL := hid hl
  dsimp only [evA] at HW HWR ⊢
  have HB : Hid (Below w.heap.size w (w.alloc (.cells #[.int .u8 kind, .int .i64 th, .int .i64 tx, .int .i64 at_, .int .i64 v, .int .i64 x, .int .u8 why] 23))) := hid (ext_alloc (ext_refl _) _)
  have HE : Hid (Blk (w.alloc (.cells #[.int .u8 kind, .int .i64 th, .int .i64 tx, .int .i64 at_, .int .i64 v, .int .i64 x, .int .u8 why] 23)) w.heap.size #[.int .u8 kind, .int .i64 th, .int .i64 tx, .int .i64 at_, .int .i64 v, .int .i64 x, .int .u8 why] 23) := hid (Blk.new _ _ _)
  by_cases h300 : 300 < l.length
  · have j1 : decide ((300 : Int) < (l.length : Int)) = true := by rw [decide_eq_true_iff]; omega
    have j2 : decide (300 < l.length) = true := decide_eq_true h300
    have j3 : wrap64 (l.length : Int) = (l.length : Int) := by have := HLL.out; unfold wrap64; omega
    clear h300 he hS hR hl
    go_enter Tryd.func3, Tryd.ntmps3
    go_wp2_with fail
    refine (HA.out _ HB.out).mono ?_
    rintro e' w2 ⟨rfl, hb2⟩
    have HB2 := hid (ext_trans HB.out hb2)
    clear hb2
    go_wp2_with fail
    go_ret
    exact ⟨rfl, HB2.out⟩
  have HP := hid (fun W (hW : Below w.heap.size w W) => parse_any l (by omega) W (hS.below hW))
  have HPR := hid (fun W (hW : Below w.heap.size w W) => rparse_any l (by omega) W (hR.below hW))
  unfold ParseP at HP
  unfold RParseP at HPR
  rw [rparse_is] at HPR
  generalize parseR l = pr at HP HPR
  obtain ⟨⟨pk, pt, px, pa, pv, pX, pw⟩, pf⟩ := pr
  dsimp only [evA] at HP HPR
  have j1 : decide ((300 : Int) < (l.length : Int)) = false := by rw [decide_eq_false_iff_not]; omega
  have j2 : decide (300 < l.length) = false := decide_eq_false h300
  have j3 : wrap64 (l.length : Int) = (l.length : Int) := by have := HLL.out; unfold wrap64; omega
  clear h300 he hS hR hl
  have c0 := HE.out.cell 0 rfl
  have c1 := HE.out.cell 1 rfl
  have c2 := HE.out.cell 2 rfl
  have c3 := HE.out.cell 3 rfl
  have c4 := HE.out.cell 4 rfl
  have c5 := HE.out.cell 5 rfl
  have c6 := HE.out.cell 6 rfl
  go_enter Tryd.func3, Tryd.ntmps3
  go_wp2_with fail
  refine (HW.out _ HB.out).mono ?_
  rintro e' w2 ⟨rfl, hb2⟩
  have HB2 := hid (ext_trans HB.out hb2)
  have HE2 := hid (HE.out.below hb2)
  clear hb2 c0 c1 c2 c3 c4 c5 c6 HE HB
  have c0 := HE2.out.cell 0 rfl
  have c1 := HE2.out.cell 1 rfl
  have c2 := HE2.out.cell 2 rfl
  have c3 := HE2.out.cell 3 rfl
  have c4 := HE2.out.cell 4 rfl
  have c5 := HE2.out.cell 5 rfl
  have c6 := HE2.out.cell 6 rfl
  go_wp2_with fail
  refine (HWR.out _ HB2.out).mono ?_
  rintro e' w3 ⟨rfl, hb3⟩
  have HB3 := hid (ext_trans HB2.out hb3)
  clear hb3 c0 c1 c2 c3 c4 c5 c6 HE2 HB2
  go_wp2_with fail
  refine (HP.out _ HB3.out).mono ?_
  rintro e' w4 ⟨rfl, hb4⟩
  have HB4 := hid (ext_alloc (ext_trans HB3.out hb4) (.cells #[.int .u8 pk, .int .i64 pt, .int .i64 px, .int .i64 pa, .int .i64 pv, .int .i64 pX, .int .u8 pw] 23))
  have HC4 : Hid (Blk (w4.alloc (.cells #[.int .u8 pk, .int .i64 pt, .int .i64 px, .int .i64 pa, .int .i64 pv, .int .i64 pX, .int .u8 pw] 23)) w4.heap.size #[.int .u8 pk, .int .i64 pt, .int .i64 px, .int .i64 pa, .int .i64 pv, .int .i64 pX, .int .u8 pw] 23) := hid (Blk.new _ _ _)
  clear hb4 j1 j2 j3
  go_wp2_with fail
  refine (HPR.out _ HB4.out).mono ?_
  rintro e' w5 ⟨rfl, hb5⟩
  have HB5 := hid (ext_alloc (ext_trans HB4.out hb5) (.cells #[.int .u8 pk, .int .i64 pt, .int .i64 px, .int .i64 pa, .int .i64 pv, .int .i64 pX, .int .u8 pw] 23))
  have HC5 := hid ((HC4.out.below hb5).alloc (.cells #[.int .u8 pk, .int .i64 pt, .int .i64 px, .int .i64 pa, .int .i64 pv, .int .i64 pX, .int .u8 pw] 23))
  have HD5 : Hid (Blk (w5.alloc (.cells #[.int .u8 pk, .int .i64 pt, .int .i64 px, .int .i64 pa, .int .i64 pv, .int .i64 pX, .int .u8 pw] 23)) w5.heap.size #[.int .u8 pk, .int .i64 pt, .int .i64 px, .int .i64 pa, .int .i64 pv, .int .i64 pX, .int .u8 pw] 23) := hid (Blk.new _ _ _)
  clear hb5 HC4
  have c0 := HC5.out.cell 0 rfl
  have c1 := HC5.out.cell 1 rfl
  have c2 := HC5.out.cell 2 rfl
  have c3 := HC5.out.cell 3 rfl
  have c4 := HC5.out.cell 4 rfl
  have c5 := HC5.out.cell 5 rfl
  have c6 := HC5.out.cell 6 rfl
  have d0 := HD5.out.cell 0 rfl
  have d1 := HD5.out.cell 1 rfl
  have d2 := HD5.out.cell 2 rfl
  have d3 := HD5.out.cell 3 rfl
  have d4 := HD5.out.cell 4 rfl
  have d5 := HD5.out.cell 5 rfl
  have d6 := HD5.out.cell 6 rfl
  go_wp2_with fail
  refine (HA.out _ HB5.out).mono ?_
  rintro e' w6 ⟨rfl, hb6⟩
  have HB6 := hid (ext_trans HB5.out hb6)
  clear hb6
  go_wp2_with fail
  go_ret
  exact ⟨rfl, HB6.out⟩
end Go.Proofs.YtlbpollckiidlaaDoor
