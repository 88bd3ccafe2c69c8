/-
  Joined texts: ShCc ShCe ShCf ShCg ShVc.
-/
import Derived.Test.YtjckgagkkknmnaaDoorShN
import Derived.Test.YtjckgagkkknmnaaDoorShCd
import Derived.Test.YtjckgagkkknmnaaDoorShV
/-
  The checker; walks: Next, Kind by Kind.
-/
namespace Go.Proofs.YtjckgagkkknmnaaDoor
set_option linter.unusedVariables false
set_option linter.unusedSimpArgs false
open Go Go.RowKit
section
variable {w : World} {c tb sb : Nat} {s : Sh} {ev : Nat}

set_option maxRecDepth 100000 in
set_option maxHeartbeats 4000000 in
theorem next_1 (h : CkAt w c tb sb s ev) (hK : KindsAt w) (hev : ev < 1048576) (i : Nat) (hi : i < s.ths.length) (tx at_ v x why : Int) (he : EvOk ⟨1, i, tx, at_, v, x, why⟩) (hm : mayE ⟨1, i, tx, at_, v, x, why⟩ s.ths.length s.vars s.sts.length = true) (r : Option Sh) (hlen : ∀ s', r = some s' → s'.ths.length = s.ths.length)
    (HM : Hid (∀ W, Below w.heap.size w W → Calls Tryd.prog 32 #[.pointer (some ⟨c, 0, none⟩), .pointer (some ⟨tb, i * 13, none⟩), .agg #[.int .u8 1, .int .i64 (i : Int), .int .i64 tx, .int .i64 at_, .int .i64 v, .int .i64 x, .int .u8 why]] W (StepP W c tb sb s ev r))) :
    Calls Tryd.prog 23 #[.pointer (some ⟨c, 0, none⟩), .agg #[.int .u8 1, .int .i64 (i : Int), .int .i64 tx, .int .i64 at_, .int .i64 v, .int .i64 x, .int .u8 why]] w (NextP w c tb sb s ev r) := by
  obtain ⟨c0, c1, c2, c3, c4⟩ := h.cells
  have hcl := lt_of_cell c0
  have HH := hid h
  have hne := h.ne
  have htl := h.th.lt
  have hsl := h.st.lt
  have g1 : (ev : Int) < 1048576 := by omega
  have g2 : (0 : Int) ≤ (ev : Int) := by omega
  have g3 : decide ((1048576 : Int) ≤ (ev : Int)) = false := by rw [decide_eq_false_iff_not]; omega
  have g4 : (0 : Int) ≤ (i : Int) := by omega
  have g5 : (i : Int) < (s.ths.length : Int) := by omega
  have hmay := fun W (hW : Below w.heap.size w W) => may_any ⟨1, i, tx, at_, v, x, why⟩ s.ths.length s.vars s.sts.length W he (hK.below hW)
  rw [hm] at hmay
  dsimp only [evA] at hmay
  have HMAY := hid hmay
  clear hmay
  clear h hK he hm hev hi
  go_enter Tryd.func23, Tryd.ntmps23
  go_wp2_with fail
  have b0 := (Blk.new w #[.int .u8 1, .int .i64 (i : Int), .int .i64 tx, .int .i64 at_, .int .i64 v, .int .i64 x, .int .u8 why] 45)
  apply wp_region_vals' [.agg #[.int .u8 1, .int .i64 (i : Int), .int .i64 tx, .int .i64 at_, .int .i64 v, .int .i64 x, .int .u8 why], .pointer (some ⟨c, 0, none⟩), .pointer (some ⟨c, 0, none⟩), .pointer (some ⟨c, 3, none⟩), .slice (some ⟨tb, 0, none⟩) s.ths.length s.ths.length, .int .i64 (s.ths.length : Int), .pointer (some ⟨c, 0, none⟩), .pointer (some ⟨c, 0, none⟩), .pointer (some ⟨c, 0, none⟩), .int .i64 s.vars, .pointer (some ⟨c, 0, none⟩), .pointer (some ⟨c, 0, none⟩), .pointer (some ⟨c, 4, none⟩), .slice (some ⟨sb, 0, none⟩) s.sts.length s.sts.length, .int .i64 (s.sts.length : Int), .bool true, .bool false, .bool false] (fun w' => Below (w.alloc (.cells #[.int .u8 1, .int .i64 (i : Int), .int .i64 tx, .int .i64 at_, .int .i64 v, .int .i64 x, .int .u8 why] 45)).heap.size (w.alloc (.cells #[.int .u8 1, .int .i64 (i : Int), .int .i64 tx, .int .i64 at_, .int .i64 v, .int .i64 x, .int .u8 why] 45)) w')
  focus (simp [putAll, dstOf, Act.put, List.getD]; rfl)
  case hm => kernel_rfl
  case hd => kernel_rfl
  case hb => kernel_rfl
  case hdep => kernel_rfl
  case hsel => kernel_rfl
  case hsz => kernel_rfl
  case h0 => exact ext_drew (ext_refl _)
  case hstep =>
    repeat' (first | exact trivial | (refine And.intro ?_ ?_))
    all_goals (
      intro w' hG
      rw [if_pos (by kernel_rfl)]
      intro K Qp hK
      have d0 := later hG (cell_alloc c0)
      have d3 := later hG (cell_alloc c3)
      have d4 := later hG (cell_alloc c4)
      have d20 := later hG (b0.cell 0 rfl)
      have d21 := later hG (b0.cell 1 rfl)
      have d22 := later hG (b0.cell 2 rfl)
      have d23 := later hG (b0.cell 3 rfl)
      have d24 := later hG (b0.cell 4 rfl)
      have d25 := later hG (b0.cell 5 rfl)
      have d26 := later hG (b0.cell 6 rfl)
      have hb0 : Below w.heap.size w w' := ext_trans (ext_alloc (ext_refl _) _) hG
      have HB0 := hid hb0
      have HGG := hid hG
      clear hb0 hG c0 c1 c2 c3 c4 b0
      go_simp
      first
      | exact hK _ HGG.out
      | (go_wp2_with ((with_reducible refine (HMAY.out _ HB0.out).mono ?_); rintro e' w1 ⟨rfl, hb1⟩)
         first | (with_reducible exact HGG.out) | exact ext_trans HGG.out hb1 | exact hK _ HGG.out | exact hK _ (ext_trans HGG.out hb1)))
  case hdone =>
    intro w' hG
    have hb : Below w.heap.size w w' := ext_trans (ext_alloc (ext_refl _) _) hG
    have d2 := later hb c2
    have d3 := later hb c3
    have d20 := later hG (b0.cell 0 rfl)
    have d21 := later hG (b0.cell 1 rfl)
    have d22 := later hG (b0.cell 2 rfl)
    have d23 := later hG (b0.cell 3 rfl)
    have d24 := later hG (b0.cell 4 rfl)
    have d25 := later hG (b0.cell 5 rfl)
    have d26 := later hG (b0.cell 6 rfl)
    have z1 : w.heap.size < w'.heap.size := by have := hG.size; simp at this; omega
    have hc1 : c < w'.heap.size := by omega
    have ht1 : tb < w'.heap.size := by omega
    have hs1 : sb < w'.heap.size := by omega
    have HB := hid hb
    have HWZ := hid (show c ≠ w.heap.size ∧ tb ≠ w.heap.size ∧ sb ≠ w.heap.size by omega)
    clear hb hG c0 c1 c2 c3 c4 b0
    have bz := Blk.new w' #[.nilFunc, .nilFunc, .nilFunc, .nilFunc, .nilFunc, .nilFunc, .nilFunc, .nilFunc, .nilFunc, .nilFunc, .nilFunc, .nilFunc, .nilFunc, .nilFunc] 78
    have hth := there_blk (n := 14) bz rfl
    have hi1 : (Tryd.prog.info? 78).map (·.size) = some (#[.nilFunc, .func (.func 32) #[] #[], .func (.func 33) #[] #[], .func (.func 34) #[] #[], .func (.func 35) #[] #[], .func (.func 36) #[] #[], .func (.func 37) #[] #[], .func (.func 38) #[] #[], .func (.func 39) #[] #[], .func (.func 40) #[] #[], .func (.func 41) #[] #[], .func (.func 42) #[] #[], .func (.func 43) #[] #[], .func (.func 44) #[] #[]] : Array Value).size := by kernel_rfl
    have hi2 : (#[.nilFunc, .func (.func 32) #[] #[], .func (.func 33) #[] #[], .func (.func 34) #[] #[], .func (.func 35) #[] #[], .func (.func 36) #[] #[], .func (.func 37) #[] #[], .func (.func 38) #[] #[], .func (.func 39) #[] #[], .func (.func 40) #[] #[], .func (.func 41) #[] #[], .func (.func 42) #[] #[], .func (.func 43) #[] #[], .func (.func 44) #[] #[]] : Array Value).all (·.oneCell') = true := by kernel_rfl
    have HI1 := hid hi1
    have HI2 := hid hi2
    have HTH := hid hth
    clear hi1 hi2 hth
    go_wp2_with (refine wpList_store_mid rfl 78 (.tmp 5) (.tmp 33) rfl w'.heap.size 0 #[.nilFunc, .func (.func 32) #[] #[], .func (.func 33) #[] #[], .func (.func 34) #[] #[], .func (.func 35) #[] #[], .func (.func 36) #[] #[], .func (.func 37) #[] #[], .func (.func 38) #[] #[], .func (.func 39) #[] #[], .func (.func 40) #[] #[], .func (.func 41) #[] #[], .func (.func 42) #[] #[], .func (.func 43) #[] #[], .func (.func 44) #[] #[]] rfl rfl HTH.out HI1.out HI2.out ?_)
    have e1f := setCells_cell bz (#[.nilFunc, .func (.func 32) #[] #[], .func (.func 33) #[] #[], .func (.func 34) #[] #[], .func (.func 35) #[] #[], .func (.func 36) #[] #[], .func (.func 37) #[] #[], .func (.func 38) #[] #[], .func (.func 39) #[] #[], .func (.func 40) #[] #[], .func (.func 41) #[] #[], .func (.func 42) #[] #[], .func (.func 43) #[] #[], .func (.func 44) #[] #[]] : Array Value).toList rfl 1 (v := .func (.func 32) #[] #[]) rfl
    have hbz : Below w'.heap.size w' ((w'.alloc (.cells #[.nilFunc, .nilFunc, .nilFunc, .nilFunc, .nilFunc, .nilFunc, .nilFunc, .nilFunc, .nilFunc, .nilFunc, .nilFunc, .nilFunc, .nilFunc, .nilFunc] 78)).setCells w'.heap.size 0 (#[.nilFunc, .func (.func 32) #[] #[], .func (.func 33) #[] #[], .func (.func 34) #[] #[], .func (.func 35) #[] #[], .func (.func 36) #[] #[], .func (.func 37) #[] #[], .func (.func 38) #[] #[], .func (.func 39) #[] #[], .func (.func 40) #[] #[], .func (.func 41) #[] #[], .func (.func 42) #[] #[], .func (.func 43) #[] #[], .func (.func 44) #[] #[]] : Array Value).toList) := (ext_alloc (ext_refl w') _).trans (setCells_below (B := w'.heap.size) (Nat.le_refl _) _ 0 _)
    generalize hW : (w'.alloc (.cells #[.nilFunc, .nilFunc, .nilFunc, .nilFunc, .nilFunc, .nilFunc, .nilFunc, .nilFunc, .nilFunc, .nilFunc, .nilFunc, .nilFunc, .nilFunc, .nilFunc] 78)).setCells w'.heap.size 0 (#[.nilFunc, .func (.func 32) #[] #[], .func (.func 33) #[] #[], .func (.func 34) #[] #[], .func (.func 35) #[] #[], .func (.func 36) #[] #[], .func (.func 37) #[] #[], .func (.func 38) #[] #[], .func (.func 39) #[] #[], .func (.func 40) #[] #[], .func (.func 41) #[] #[], .func (.func 42) #[] #[], .func (.func 43) #[] #[], .func (.func 44) #[] #[]] : Array Value).toList = W2 at *
    have HBZ := hid hbz
    have q2 := later hbz d2
    have q3 := later hbz d3
    have q20 := later hbz d20
    have q21 := later hbz d21
    have q22 := later hbz d22
    have q23 := later hbz d23
    have q24 := later hbz d24
    have q25 := later hbz d25
    have q26 := later hbz d26
    have z2 := hbz.size
    have hc2 : c < W2.heap.size := by omega
    have ht2 : tb < W2.heap.size := by omega
    have hs2 : sb < W2.heap.size := by omega
    have HZZ := hid (show c ≠ w'.heap.size ∧ tb ≠ w'.heap.size ∧ sb ≠ w'.heap.size by omega)
    clear hW hbz bz d2 d3 d20 d21 d22 d23 d24 d25 d26
    have hb2 : Below w.heap.size w W2 := ext_trans HB.out HBZ.out
    have HN1 := hid (show w.heap.size ∉ [c, tb, sb] by have := HWZ.out; simp; omega)
    have HN2 := hid (show w'.heap.size ∉ [c, tb, sb] by have := HZZ.out; simp; omega)
    cases r with
    | none =>
      have HM2 := hid fun W (hW : Below w.heap.size w W) => (HM.out W hW).mono (R' := fun e' w1 => e' = .returned (.bool false) ∧ (w1.cell? ⟨c, 3, none⟩ = some (.slice (some ⟨tb, 0, none⟩) s.ths.length s.ths.length)) ∧ Hid (CkAt w1 c tb sb s ev) ∧ Turn [c, tb, sb] W w1) (fun e' w1 hh => ⟨hh.1, (CkAt.cells hh.2.1).2.2.2.1, hid hh.2.1, hh.2.2⟩)
      clear HM hlen
      go_region_held3 (fun wq => wq.cell? ⟨c, 3, none⟩ = some (.slice (some ⟨tb, 0, none⟩) s.ths.length s.ths.length) ∧ wq.cell? ⟨w.heap.size, 0, none⟩ = some (.int .u8 1) ∧ wq.cell? ⟨w.heap.size, 1, none⟩ = some (.int .i64 (i : Int)) ∧ wq.cell? ⟨w.heap.size, 2, none⟩ = some (.int .i64 tx) ∧ wq.cell? ⟨w.heap.size, 3, none⟩ = some (.int .i64 at_) ∧ wq.cell? ⟨w.heap.size, 4, none⟩ = some (.int .i64 v) ∧ wq.cell? ⟨w.heap.size, 5, none⟩ = some (.int .i64 x) ∧ wq.cell? ⟨w.heap.size, 6, none⟩ = some (.int .u8 why) ∧ wq.cell? ⟨w'.heap.size, 1, none⟩ = some (.func (.func 32) #[] #[]))
        (first | exact ⟨hc3, ht1.cell HN1.out q20, ht1.cell HN1.out q21, ht1.cell HN1.out q22, ht1.cell HN1.out q23, ht1.cell HN1.out q24, ht1.cell HN1.out q25, ht1.cell HN1.out q26, ht1.cell HN2.out e1f⟩ | go_keep)
        ((go_at_call 32; refine (HM2.out _ ?_).mono ?_; (focus repeat (first | assumption | exact ext_refl _ | refine ext_drew ?_ | refine ext_alloc ?_ _ | refine ext_trans ?_ (by assumption))); rintro e' w1 ⟨rfl, hc3, HK1, ht1⟩))
      all_goals (
        have ht2 : Turn [c, tb, sb] w w1 := (Turn.of_below hb2).trans ((Turn.refl _ _).drew.trans ht1)
        have HT2 := hid ht2
        clear ht1 ht2
        go_wp2_with fail
        go_ret
        exact Or.inr ⟨rfl, rfl, HK1.out, HT2.out⟩)
    | some s' =>
      have hl := hlen s' rfl
      have HM2 := hid fun W (hW : Below w.heap.size w W) => (HM.out W hW).mono (R' := fun e' w1 => e' = .returned (.bool true) ∧ (w1.cell? ⟨c, 3, none⟩ = some (.slice (some ⟨tb, 0, none⟩) s.ths.length s.ths.length)) ∧ Hid (CkAt w1 c tb sb s' ev) ∧ Turn [c, tb, sb] W w1) (fun e' w1 hh => ⟨hh.1, by rw [← hl]; exact (CkAt.cells hh.2.1).2.2.2.1, hid hh.2.1, hh.2.2⟩)
      clear HM hlen hl
      go_region_held3 (fun wq => wq.cell? ⟨c, 3, none⟩ = some (.slice (some ⟨tb, 0, none⟩) s.ths.length s.ths.length) ∧ wq.cell? ⟨w.heap.size, 0, none⟩ = some (.int .u8 1) ∧ wq.cell? ⟨w.heap.size, 1, none⟩ = some (.int .i64 (i : Int)) ∧ wq.cell? ⟨w.heap.size, 2, none⟩ = some (.int .i64 tx) ∧ wq.cell? ⟨w.heap.size, 3, none⟩ = some (.int .i64 at_) ∧ wq.cell? ⟨w.heap.size, 4, none⟩ = some (.int .i64 v) ∧ wq.cell? ⟨w.heap.size, 5, none⟩ = some (.int .i64 x) ∧ wq.cell? ⟨w.heap.size, 6, none⟩ = some (.int .u8 why) ∧ wq.cell? ⟨w'.heap.size, 1, none⟩ = some (.func (.func 32) #[] #[]))
        (first | exact ⟨hc3, ht1.cell HN1.out q20, ht1.cell HN1.out q21, ht1.cell HN1.out q22, ht1.cell HN1.out q23, ht1.cell HN1.out q24, ht1.cell HN1.out q25, ht1.cell HN1.out q26, ht1.cell HN2.out e1f⟩ | go_keep)
        ((go_at_call 32; refine (HM2.out _ ?_).mono ?_; (focus repeat (first | assumption | exact ext_refl _ | refine ext_drew ?_ | refine ext_alloc ?_ _ | refine ext_trans ?_ (by assumption))); rintro e' w1 ⟨rfl, hc3, HK1, ht1⟩))
      all_goals (
        have ht2 : Turn [c, tb, sb] w w1 := (Turn.of_below hb2).trans ((Turn.refl _ _).drew.trans ht1)
        have HT2 := hid ht2
        have h2 := (CkAt.cells HK1.out).2.2.1
        have f2 : w1.frozen? ⟨c, 2, none⟩ = false := HK1.out.ck.free 2
        clear ht1 ht2 q2 q3 hb2
        go_wp2_with fail
        go_ret
        exact Or.inl ⟨s', rfl, rfl, CkR.set_ev HK1.out _, HT2.out.setCell (Or.inl (by simp)) _⟩)

set_option maxRecDepth 100000 in
set_option maxHeartbeats 4000000 in
theorem next_2 (h : CkAt w c tb sb s ev) (hK : KindsAt w) (hev : ev < 1048576) (i : Nat) (hi : i < s.ths.length) (tx at_ v x why : Int) (he : EvOk ⟨2, i, tx, at_, v, x, why⟩) (hm : mayE ⟨2, i, tx, at_, v, x, why⟩ s.ths.length s.vars s.sts.length = true) (r : Option Sh) (hlen : ∀ s', r = some s' → s'.ths.length = s.ths.length)
    (HM : Hid (∀ W, Below w.heap.size w W → Calls Tryd.prog 33 #[.pointer (some ⟨c, 0, none⟩), .pointer (some ⟨tb, i * 13, none⟩), .agg #[.int .u8 2, .int .i64 (i : Int), .int .i64 tx, .int .i64 at_, .int .i64 v, .int .i64 x, .int .u8 why]] W (StepP W c tb sb s ev r))) :
    Calls Tryd.prog 23 #[.pointer (some ⟨c, 0, none⟩), .agg #[.int .u8 2, .int .i64 (i : Int), .int .i64 tx, .int .i64 at_, .int .i64 v, .int .i64 x, .int .u8 why]] w (NextP w c tb sb s ev r) := by
  obtain ⟨c0, c1, c2, c3, c4⟩ := h.cells
  have hcl := lt_of_cell c0
  have HH := hid h
  have hne := h.ne
  have htl := h.th.lt
  have hsl := h.st.lt
  have g1 : (ev : Int) < 1048576 := by omega
  have g2 : (0 : Int) ≤ (ev : Int) := by omega
  have g3 : decide ((1048576 : Int) ≤ (ev : Int)) = false := by rw [decide_eq_false_iff_not]; omega
  have g4 : (0 : Int) ≤ (i : Int) := by omega
  have g5 : (i : Int) < (s.ths.length : Int) := by omega
  have hmay := fun W (hW : Below w.heap.size w W) => may_any ⟨2, i, tx, at_, v, x, why⟩ s.ths.length s.vars s.sts.length W he (hK.below hW)
  rw [hm] at hmay
  dsimp only [evA] at hmay
  have HMAY := hid hmay
  clear hmay
  clear h hK he hm hev hi
  go_enter Tryd.func23, Tryd.ntmps23
  go_wp2_with fail
  have b0 := (Blk.new w #[.int .u8 2, .int .i64 (i : Int), .int .i64 tx, .int .i64 at_, .int .i64 v, .int .i64 x, .int .u8 why] 45)
  apply wp_region_vals' [.agg #[.int .u8 2, .int .i64 (i : Int), .int .i64 tx, .int .i64 at_, .int .i64 v, .int .i64 x, .int .u8 why], .pointer (some ⟨c, 0, none⟩), .pointer (some ⟨c, 0, none⟩), .pointer (some ⟨c, 3, none⟩), .slice (some ⟨tb, 0, none⟩) s.ths.length s.ths.length, .int .i64 (s.ths.length : Int), .pointer (some ⟨c, 0, none⟩), .pointer (some ⟨c, 0, none⟩), .pointer (some ⟨c, 0, none⟩), .int .i64 s.vars, .pointer (some ⟨c, 0, none⟩), .pointer (some ⟨c, 0, none⟩), .pointer (some ⟨c, 4, none⟩), .slice (some ⟨sb, 0, none⟩) s.sts.length s.sts.length, .int .i64 (s.sts.length : Int), .bool true, .bool false, .bool false] (fun w' => Below (w.alloc (.cells #[.int .u8 2, .int .i64 (i : Int), .int .i64 tx, .int .i64 at_, .int .i64 v, .int .i64 x, .int .u8 why] 45)).heap.size (w.alloc (.cells #[.int .u8 2, .int .i64 (i : Int), .int .i64 tx, .int .i64 at_, .int .i64 v, .int .i64 x, .int .u8 why] 45)) w')
  focus (simp [putAll, dstOf, Act.put, List.getD]; rfl)
  case hm => kernel_rfl
  case hd => kernel_rfl
  case hb => kernel_rfl
  case hdep => kernel_rfl
  case hsel => kernel_rfl
  case hsz => kernel_rfl
  case h0 => exact ext_drew (ext_refl _)
  case hstep =>
    repeat' (first | exact trivial | (refine And.intro ?_ ?_))
    all_goals (
      intro w' hG
      rw [if_pos (by kernel_rfl)]
      intro K Qp hK
      have d0 := later hG (cell_alloc c0)
      have d3 := later hG (cell_alloc c3)
      have d4 := later hG (cell_alloc c4)
      have d20 := later hG (b0.cell 0 rfl)
      have d21 := later hG (b0.cell 1 rfl)
      have d22 := later hG (b0.cell 2 rfl)
      have d23 := later hG (b0.cell 3 rfl)
      have d24 := later hG (b0.cell 4 rfl)
      have d25 := later hG (b0.cell 5 rfl)
      have d26 := later hG (b0.cell 6 rfl)
      have hb0 : Below w.heap.size w w' := ext_trans (ext_alloc (ext_refl _) _) hG
      have HB0 := hid hb0
      have HGG := hid hG
      clear hb0 hG c0 c1 c2 c3 c4 b0
      go_simp
      first
      | exact hK _ HGG.out
      | (go_wp2_with ((with_reducible refine (HMAY.out _ HB0.out).mono ?_); rintro e' w1 ⟨rfl, hb1⟩)
         first | (with_reducible exact HGG.out) | exact ext_trans HGG.out hb1 | exact hK _ HGG.out | exact hK _ (ext_trans HGG.out hb1)))
  case hdone =>
    intro w' hG
    have hb : Below w.heap.size w w' := ext_trans (ext_alloc (ext_refl _) _) hG
    have d2 := later hb c2
    have d3 := later hb c3
    have d20 := later hG (b0.cell 0 rfl)
    have d21 := later hG (b0.cell 1 rfl)
    have d22 := later hG (b0.cell 2 rfl)
    have d23 := later hG (b0.cell 3 rfl)
    have d24 := later hG (b0.cell 4 rfl)
    have d25 := later hG (b0.cell 5 rfl)
    have d26 := later hG (b0.cell 6 rfl)
    have z1 : w.heap.size < w'.heap.size := by have := hG.size; simp at this; omega
    have hc1 : c < w'.heap.size := by omega
    have ht1 : tb < w'.heap.size := by omega
    have hs1 : sb < w'.heap.size := by omega
    have HB := hid hb
    have HWZ := hid (show c ≠ w.heap.size ∧ tb ≠ w.heap.size ∧ sb ≠ w.heap.size by omega)
    clear hb hG c0 c1 c2 c3 c4 b0
    have bz := Blk.new w' #[.nilFunc, .nilFunc, .nilFunc, .nilFunc, .nilFunc, .nilFunc, .nilFunc, .nilFunc, .nilFunc, .nilFunc, .nilFunc, .nilFunc, .nilFunc, .nilFunc] 78
    have hth := there_blk (n := 14) bz rfl
    have hi1 : (Tryd.prog.info? 78).map (·.size) = some (#[.nilFunc, .func (.func 32) #[] #[], .func (.func 33) #[] #[], .func (.func 34) #[] #[], .func (.func 35) #[] #[], .func (.func 36) #[] #[], .func (.func 37) #[] #[], .func (.func 38) #[] #[], .func (.func 39) #[] #[], .func (.func 40) #[] #[], .func (.func 41) #[] #[], .func (.func 42) #[] #[], .func (.func 43) #[] #[], .func (.func 44) #[] #[]] : Array Value).size := by kernel_rfl
    have hi2 : (#[.nilFunc, .func (.func 32) #[] #[], .func (.func 33) #[] #[], .func (.func 34) #[] #[], .func (.func 35) #[] #[], .func (.func 36) #[] #[], .func (.func 37) #[] #[], .func (.func 38) #[] #[], .func (.func 39) #[] #[], .func (.func 40) #[] #[], .func (.func 41) #[] #[], .func (.func 42) #[] #[], .func (.func 43) #[] #[], .func (.func 44) #[] #[]] : Array Value).all (·.oneCell') = true := by kernel_rfl
    have HI1 := hid hi1
    have HI2 := hid hi2
    have HTH := hid hth
    clear hi1 hi2 hth
    go_wp2_with (refine wpList_store_mid rfl 78 (.tmp 5) (.tmp 33) rfl w'.heap.size 0 #[.nilFunc, .func (.func 32) #[] #[], .func (.func 33) #[] #[], .func (.func 34) #[] #[], .func (.func 35) #[] #[], .func (.func 36) #[] #[], .func (.func 37) #[] #[], .func (.func 38) #[] #[], .func (.func 39) #[] #[], .func (.func 40) #[] #[], .func (.func 41) #[] #[], .func (.func 42) #[] #[], .func (.func 43) #[] #[], .func (.func 44) #[] #[]] rfl rfl HTH.out HI1.out HI2.out ?_)
    have e2f := setCells_cell bz (#[.nilFunc, .func (.func 32) #[] #[], .func (.func 33) #[] #[], .func (.func 34) #[] #[], .func (.func 35) #[] #[], .func (.func 36) #[] #[], .func (.func 37) #[] #[], .func (.func 38) #[] #[], .func (.func 39) #[] #[], .func (.func 40) #[] #[], .func (.func 41) #[] #[], .func (.func 42) #[] #[], .func (.func 43) #[] #[], .func (.func 44) #[] #[]] : Array Value).toList rfl 2 (v := .func (.func 33) #[] #[]) rfl
    have hbz : Below w'.heap.size w' ((w'.alloc (.cells #[.nilFunc, .nilFunc, .nilFunc, .nilFunc, .nilFunc, .nilFunc, .nilFunc, .nilFunc, .nilFunc, .nilFunc, .nilFunc, .nilFunc, .nilFunc, .nilFunc] 78)).setCells w'.heap.size 0 (#[.nilFunc, .func (.func 32) #[] #[], .func (.func 33) #[] #[], .func (.func 34) #[] #[], .func (.func 35) #[] #[], .func (.func 36) #[] #[], .func (.func 37) #[] #[], .func (.func 38) #[] #[], .func (.func 39) #[] #[], .func (.func 40) #[] #[], .func (.func 41) #[] #[], .func (.func 42) #[] #[], .func (.func 43) #[] #[], .func (.func 44) #[] #[]] : Array Value).toList) := (ext_alloc (ext_refl w') _).trans (setCells_below (B := w'.heap.size) (Nat.le_refl _) _ 0 _)
    generalize hW : (w'.alloc (.cells #[.nilFunc, .nilFunc, .nilFunc, .nilFunc, .nilFunc, .nilFunc, .nilFunc, .nilFunc, .nilFunc, .nilFunc, .nilFunc, .nilFunc, .nilFunc, .nilFunc] 78)).setCells w'.heap.size 0 (#[.nilFunc, .func (.func 32) #[] #[], .func (.func 33) #[] #[], .func (.func 34) #[] #[], .func (.func 35) #[] #[], .func (.func 36) #[] #[], .func (.func 37) #[] #[], .func (.func 38) #[] #[], .func (.func 39) #[] #[], .func (.func 40) #[] #[], .func (.func 41) #[] #[], .func (.func 42) #[] #[], .func (.func 43) #[] #[], .func (.func 44) #[] #[]] : Array Value).toList = W2 at *
    have HBZ := hid hbz
    have q2 := later hbz d2
    have q3 := later hbz d3
    have q20 := later hbz d20
    have q21 := later hbz d21
    have q22 := later hbz d22
    have q23 := later hbz d23
    have q24 := later hbz d24
    have q25 := later hbz d25
    have q26 := later hbz d26
    have z2 := hbz.size
    have hc2 : c < W2.heap.size := by omega
    have ht2 : tb < W2.heap.size := by omega
    have hs2 : sb < W2.heap.size := by omega
    have HZZ := hid (show c ≠ w'.heap.size ∧ tb ≠ w'.heap.size ∧ sb ≠ w'.heap.size by omega)
    clear hW hbz bz d2 d3 d20 d21 d22 d23 d24 d25 d26
    have hb2 : Below w.heap.size w W2 := ext_trans HB.out HBZ.out
    have HN1 := hid (show w.heap.size ∉ [c, tb, sb] by have := HWZ.out; simp; omega)
    have HN2 := hid (show w'.heap.size ∉ [c, tb, sb] by have := HZZ.out; simp; omega)
    cases r with
    | none =>
      have HM2 := hid fun W (hW : Below w.heap.size w W) => (HM.out W hW).mono (R' := fun e' w1 => e' = .returned (.bool false) ∧ (w1.cell? ⟨c, 3, none⟩ = some (.slice (some ⟨tb, 0, none⟩) s.ths.length s.ths.length)) ∧ Hid (CkAt w1 c tb sb s ev) ∧ Turn [c, tb, sb] W w1) (fun e' w1 hh => ⟨hh.1, (CkAt.cells hh.2.1).2.2.2.1, hid hh.2.1, hh.2.2⟩)
      clear HM hlen
      go_region_held3 (fun wq => wq.cell? ⟨c, 3, none⟩ = some (.slice (some ⟨tb, 0, none⟩) s.ths.length s.ths.length) ∧ wq.cell? ⟨w.heap.size, 0, none⟩ = some (.int .u8 2) ∧ wq.cell? ⟨w.heap.size, 1, none⟩ = some (.int .i64 (i : Int)) ∧ wq.cell? ⟨w.heap.size, 2, none⟩ = some (.int .i64 tx) ∧ wq.cell? ⟨w.heap.size, 3, none⟩ = some (.int .i64 at_) ∧ wq.cell? ⟨w.heap.size, 4, none⟩ = some (.int .i64 v) ∧ wq.cell? ⟨w.heap.size, 5, none⟩ = some (.int .i64 x) ∧ wq.cell? ⟨w.heap.size, 6, none⟩ = some (.int .u8 why) ∧ wq.cell? ⟨w'.heap.size, 2, none⟩ = some (.func (.func 33) #[] #[]))
        (first | exact ⟨hc3, ht1.cell HN1.out q20, ht1.cell HN1.out q21, ht1.cell HN1.out q22, ht1.cell HN1.out q23, ht1.cell HN1.out q24, ht1.cell HN1.out q25, ht1.cell HN1.out q26, ht1.cell HN2.out e2f⟩ | go_keep)
        ((go_at_call 33; refine (HM2.out _ ?_).mono ?_; (focus repeat (first | assumption | exact ext_refl _ | refine ext_drew ?_ | refine ext_alloc ?_ _ | refine ext_trans ?_ (by assumption))); rintro e' w1 ⟨rfl, hc3, HK1, ht1⟩))
      all_goals (
        have ht2 : Turn [c, tb, sb] w w1 := (Turn.of_below hb2).trans ((Turn.refl _ _).drew.trans ht1)
        have HT2 := hid ht2
        clear ht1 ht2
        go_wp2_with fail
        go_ret
        exact Or.inr ⟨rfl, rfl, HK1.out, HT2.out⟩)
    | some s' =>
      have hl := hlen s' rfl
      have HM2 := hid fun W (hW : Below w.heap.size w W) => (HM.out W hW).mono (R' := fun e' w1 => e' = .returned (.bool true) ∧ (w1.cell? ⟨c, 3, none⟩ = some (.slice (some ⟨tb, 0, none⟩) s.ths.length s.ths.length)) ∧ Hid (CkAt w1 c tb sb s' ev) ∧ Turn [c, tb, sb] W w1) (fun e' w1 hh => ⟨hh.1, by rw [← hl]; exact (CkAt.cells hh.2.1).2.2.2.1, hid hh.2.1, hh.2.2⟩)
      clear HM hlen hl
      go_region_held3 (fun wq => wq.cell? ⟨c, 3, none⟩ = some (.slice (some ⟨tb, 0, none⟩) s.ths.length s.ths.length) ∧ wq.cell? ⟨w.heap.size, 0, none⟩ = some (.int .u8 2) ∧ wq.cell? ⟨w.heap.size, 1, none⟩ = some (.int .i64 (i : Int)) ∧ wq.cell? ⟨w.heap.size, 2, none⟩ = some (.int .i64 tx) ∧ wq.cell? ⟨w.heap.size, 3, none⟩ = some (.int .i64 at_) ∧ wq.cell? ⟨w.heap.size, 4, none⟩ = some (.int .i64 v) ∧ wq.cell? ⟨w.heap.size, 5, none⟩ = some (.int .i64 x) ∧ wq.cell? ⟨w.heap.size, 6, none⟩ = some (.int .u8 why) ∧ wq.cell? ⟨w'.heap.size, 2, none⟩ = some (.func (.func 33) #[] #[]))
        (first | exact ⟨hc3, ht1.cell HN1.out q20, ht1.cell HN1.out q21, ht1.cell HN1.out q22, ht1.cell HN1.out q23, ht1.cell HN1.out q24, ht1.cell HN1.out q25, ht1.cell HN1.out q26, ht1.cell HN2.out e2f⟩ | go_keep)
        ((go_at_call 33; refine (HM2.out _ ?_).mono ?_; (focus repeat (first | assumption | exact ext_refl _ | refine ext_drew ?_ | refine ext_alloc ?_ _ | refine ext_trans ?_ (by assumption))); rintro e' w1 ⟨rfl, hc3, HK1, ht1⟩))
      all_goals (
        have ht2 : Turn [c, tb, sb] w w1 := (Turn.of_below hb2).trans ((Turn.refl _ _).drew.trans ht1)
        have HT2 := hid ht2
        have h2 := (CkAt.cells HK1.out).2.2.1
        have f2 : w1.frozen? ⟨c, 2, none⟩ = false := HK1.out.ck.free 2
        clear ht1 ht2 q2 q3 hb2
        go_wp2_with fail
        go_ret
        exact Or.inl ⟨s', rfl, rfl, CkR.set_ev HK1.out _, HT2.out.setCell (Or.inl (by simp)) _⟩)

set_option maxRecDepth 100000 in
set_option maxHeartbeats 4000000 in
theorem next_3 (h : CkAt w c tb sb s ev) (hK : KindsAt w) (hev : ev < 1048576) (i : Nat) (hi : i < s.ths.length) (tx at_ v x why : Int) (he : EvOk ⟨3, i, tx, at_, v, x, why⟩) (hm : mayE ⟨3, i, tx, at_, v, x, why⟩ s.ths.length s.vars s.sts.length = true) (r : Option Sh) (hlen : ∀ s', r = some s' → s'.ths.length = s.ths.length)
    (HM : Hid (∀ W, Below w.heap.size w W → Calls Tryd.prog 34 #[.pointer (some ⟨c, 0, none⟩), .pointer (some ⟨tb, i * 13, none⟩), .agg #[.int .u8 3, .int .i64 (i : Int), .int .i64 tx, .int .i64 at_, .int .i64 v, .int .i64 x, .int .u8 why]] W (StepP W c tb sb s ev r))) :
    Calls Tryd.prog 23 #[.pointer (some ⟨c, 0, none⟩), .agg #[.int .u8 3, .int .i64 (i : Int), .int .i64 tx, .int .i64 at_, .int .i64 v, .int .i64 x, .int .u8 why]] w (NextP w c tb sb s ev r) := by
  obtain ⟨c0, c1, c2, c3, c4⟩ := h.cells
  have hcl := lt_of_cell c0
  have HH := hid h
  have hne := h.ne
  have htl := h.th.lt
  have hsl := h.st.lt
  have g1 : (ev : Int) < 1048576 := by omega
  have g2 : (0 : Int) ≤ (ev : Int) := by omega
  have g3 : decide ((1048576 : Int) ≤ (ev : Int)) = false := by rw [decide_eq_false_iff_not]; omega
  have g4 : (0 : Int) ≤ (i : Int) := by omega
  have g5 : (i : Int) < (s.ths.length : Int) := by omega
  have hmay := fun W (hW : Below w.heap.size w W) => may_any ⟨3, i, tx, at_, v, x, why⟩ s.ths.length s.vars s.sts.length W he (hK.below hW)
  rw [hm] at hmay
  dsimp only [evA] at hmay
  have HMAY := hid hmay
  clear hmay
  clear h hK he hm hev hi
  go_enter Tryd.func23, Tryd.ntmps23
  go_wp2_with fail
  have b0 := (Blk.new w #[.int .u8 3, .int .i64 (i : Int), .int .i64 tx, .int .i64 at_, .int .i64 v, .int .i64 x, .int .u8 why] 45)
  apply wp_region_vals' [.agg #[.int .u8 3, .int .i64 (i : Int), .int .i64 tx, .int .i64 at_, .int .i64 v, .int .i64 x, .int .u8 why], .pointer (some ⟨c, 0, none⟩), .pointer (some ⟨c, 0, none⟩), .pointer (some ⟨c, 3, none⟩), .slice (some ⟨tb, 0, none⟩) s.ths.length s.ths.length, .int .i64 (s.ths.length : Int), .pointer (some ⟨c, 0, none⟩), .pointer (some ⟨c, 0, none⟩), .pointer (some ⟨c, 0, none⟩), .int .i64 s.vars, .pointer (some ⟨c, 0, none⟩), .pointer (some ⟨c, 0, none⟩), .pointer (some ⟨c, 4, none⟩), .slice (some ⟨sb, 0, none⟩) s.sts.length s.sts.length, .int .i64 (s.sts.length : Int), .bool true, .bool false, .bool false] (fun w' => Below (w.alloc (.cells #[.int .u8 3, .int .i64 (i : Int), .int .i64 tx, .int .i64 at_, .int .i64 v, .int .i64 x, .int .u8 why] 45)).heap.size (w.alloc (.cells #[.int .u8 3, .int .i64 (i : Int), .int .i64 tx, .int .i64 at_, .int .i64 v, .int .i64 x, .int .u8 why] 45)) w')
  focus (simp [putAll, dstOf, Act.put, List.getD]; rfl)
  case hm => kernel_rfl
  case hd => kernel_rfl
  case hb => kernel_rfl
  case hdep => kernel_rfl
  case hsel => kernel_rfl
  case hsz => kernel_rfl
  case h0 => exact ext_drew (ext_refl _)
  case hstep =>
    repeat' (first | exact trivial | (refine And.intro ?_ ?_))
    all_goals (
      intro w' hG
      rw [if_pos (by kernel_rfl)]
      intro K Qp hK
      have d0 := later hG (cell_alloc c0)
      have d3 := later hG (cell_alloc c3)
      have d4 := later hG (cell_alloc c4)
      have d20 := later hG (b0.cell 0 rfl)
      have d21 := later hG (b0.cell 1 rfl)
      have d22 := later hG (b0.cell 2 rfl)
      have d23 := later hG (b0.cell 3 rfl)
      have d24 := later hG (b0.cell 4 rfl)
      have d25 := later hG (b0.cell 5 rfl)
      have d26 := later hG (b0.cell 6 rfl)
      have hb0 : Below w.heap.size w w' := ext_trans (ext_alloc (ext_refl _) _) hG
      have HB0 := hid hb0
      have HGG := hid hG
      clear hb0 hG c0 c1 c2 c3 c4 b0
      go_simp
      first
      | exact hK _ HGG.out
      | (go_wp2_with ((with_reducible refine (HMAY.out _ HB0.out).mono ?_); rintro e' w1 ⟨rfl, hb1⟩)
         first | (with_reducible exact HGG.out) | exact ext_trans HGG.out hb1 | exact hK _ HGG.out | exact hK _ (ext_trans HGG.out hb1)))
  case hdone =>
    intro w' hG
    have hb : Below w.heap.size w w' := ext_trans (ext_alloc (ext_refl _) _) hG
    have d2 := later hb c2
    have d3 := later hb c3
    have d20 := later hG (b0.cell 0 rfl)
    have d21 := later hG (b0.cell 1 rfl)
    have d22 := later hG (b0.cell 2 rfl)
    have d23 := later hG (b0.cell 3 rfl)
    have d24 := later hG (b0.cell 4 rfl)
    have d25 := later hG (b0.cell 5 rfl)
    have d26 := later hG (b0.cell 6 rfl)
    have z1 : w.heap.size < w'.heap.size := by have := hG.size; simp at this; omega
    have hc1 : c < w'.heap.size := by omega
    have ht1 : tb < w'.heap.size := by omega
    have hs1 : sb < w'.heap.size := by omega
    have HB := hid hb
    have HWZ := hid (show c ≠ w.heap.size ∧ tb ≠ w.heap.size ∧ sb ≠ w.heap.size by omega)
    clear hb hG c0 c1 c2 c3 c4 b0
    have bz := Blk.new w' #[.nilFunc, .nilFunc, .nilFunc, .nilFunc, .nilFunc, .nilFunc, .nilFunc, .nilFunc, .nilFunc, .nilFunc, .nilFunc, .nilFunc, .nilFunc, .nilFunc] 78
    have hth := there_blk (n := 14) bz rfl
    have hi1 : (Tryd.prog.info? 78).map (·.size) = some (#[.nilFunc, .func (.func 32) #[] #[], .func (.func 33) #[] #[], .func (.func 34) #[] #[], .func (.func 35) #[] #[], .func (.func 36) #[] #[], .func (.func 37) #[] #[], .func (.func 38) #[] #[], .func (.func 39) #[] #[], .func (.func 40) #[] #[], .func (.func 41) #[] #[], .func (.func 42) #[] #[], .func (.func 43) #[] #[], .func (.func 44) #[] #[]] : Array Value).size := by kernel_rfl
    have hi2 : (#[.nilFunc, .func (.func 32) #[] #[], .func (.func 33) #[] #[], .func (.func 34) #[] #[], .func (.func 35) #[] #[], .func (.func 36) #[] #[], .func (.func 37) #[] #[], .func (.func 38) #[] #[], .func (.func 39) #[] #[], .func (.func 40) #[] #[], .func (.func 41) #[] #[], .func (.func 42) #[] #[], .func (.func 43) #[] #[], .func (.func 44) #[] #[]] : Array Value).all (·.oneCell') = true := by kernel_rfl
    have HI1 := hid hi1
    have HI2 := hid hi2
    have HTH := hid hth
    clear hi1 hi2 hth
    go_wp2_with (refine wpList_store_mid rfl 78 (.tmp 5) (.tmp 33) rfl w'.heap.size 0 #[.nilFunc, .func (.func 32) #[] #[], .func (.func 33) #[] #[], .func (.func 34) #[] #[], .func (.func 35) #[] #[], .func (.func 36) #[] #[], .func (.func 37) #[] #[], .func (.func 38) #[] #[], .func (.func 39) #[] #[], .func (.func 40) #[] #[], .func (.func 41) #[] #[], .func (.func 42) #[] #[], .func (.func 43) #[] #[], .func (.func 44) #[] #[]] rfl rfl HTH.out HI1.out HI2.out ?_)
    have e3f := setCells_cell bz (#[.nilFunc, .func (.func 32) #[] #[], .func (.func 33) #[] #[], .func (.func 34) #[] #[], .func (.func 35) #[] #[], .func (.func 36) #[] #[], .func (.func 37) #[] #[], .func (.func 38) #[] #[], .func (.func 39) #[] #[], .func (.func 40) #[] #[], .func (.func 41) #[] #[], .func (.func 42) #[] #[], .func (.func 43) #[] #[], .func (.func 44) #[] #[]] : Array Value).toList rfl 3 (v := .func (.func 34) #[] #[]) rfl
    have hbz : Below w'.heap.size w' ((w'.alloc (.cells #[.nilFunc, .nilFunc, .nilFunc, .nilFunc, .nilFunc, .nilFunc, .nilFunc, .nilFunc, .nilFunc, .nilFunc, .nilFunc, .nilFunc, .nilFunc, .nilFunc] 78)).setCells w'.heap.size 0 (#[.nilFunc, .func (.func 32) #[] #[], .func (.func 33) #[] #[], .func (.func 34) #[] #[], .func (.func 35) #[] #[], .func (.func 36) #[] #[], .func (.func 37) #[] #[], .func (.func 38) #[] #[], .func (.func 39) #[] #[], .func (.func 40) #[] #[], .func (.func 41) #[] #[], .func (.func 42) #[] #[], .func (.func 43) #[] #[], .func (.func 44) #[] #[]] : Array Value).toList) := (ext_alloc (ext_refl w') _).trans (setCells_below (B := w'.heap.size) (Nat.le_refl _) _ 0 _)
    generalize hW : (w'.alloc (.cells #[.nilFunc, .nilFunc, .nilFunc, .nilFunc, .nilFunc, .nilFunc, .nilFunc, .nilFunc, .nilFunc, .nilFunc, .nilFunc, .nilFunc, .nilFunc, .nilFunc] 78)).setCells w'.heap.size 0 (#[.nilFunc, .func (.func 32) #[] #[], .func (.func 33) #[] #[], .func (.func 34) #[] #[], .func (.func 35) #[] #[], .func (.func 36) #[] #[], .func (.func 37) #[] #[], .func (.func 38) #[] #[], .func (.func 39) #[] #[], .func (.func 40) #[] #[], .func (.func 41) #[] #[], .func (.func 42) #[] #[], .func (.func 43) #[] #[], .func (.func 44) #[] #[]] : Array Value).toList = W2 at *
    have HBZ := hid hbz
    have q2 := later hbz d2
    have q3 := later hbz d3
    have q20 := later hbz d20
    have q21 := later hbz d21
    have q22 := later hbz d22
    have q23 := later hbz d23
    have q24 := later hbz d24
    have q25 := later hbz d25
    have q26 := later hbz d26
    have z2 := hbz.size
    have hc2 : c < W2.heap.size := by omega
    have ht2 : tb < W2.heap.size := by omega
    have hs2 : sb < W2.heap.size := by omega
    have HZZ := hid (show c ≠ w'.heap.size ∧ tb ≠ w'.heap.size ∧ sb ≠ w'.heap.size by omega)
    clear hW hbz bz d2 d3 d20 d21 d22 d23 d24 d25 d26
    have hb2 : Below w.heap.size w W2 := ext_trans HB.out HBZ.out
    have HN1 := hid (show w.heap.size ∉ [c, tb, sb] by have := HWZ.out; simp; omega)
    have HN2 := hid (show w'.heap.size ∉ [c, tb, sb] by have := HZZ.out; simp; omega)
    cases r with
    | none =>
      have HM2 := hid fun W (hW : Below w.heap.size w W) => (HM.out W hW).mono (R' := fun e' w1 => e' = .returned (.bool false) ∧ (w1.cell? ⟨c, 3, none⟩ = some (.slice (some ⟨tb, 0, none⟩) s.ths.length s.ths.length)) ∧ Hid (CkAt w1 c tb sb s ev) ∧ Turn [c, tb, sb] W w1) (fun e' w1 hh => ⟨hh.1, (CkAt.cells hh.2.1).2.2.2.1, hid hh.2.1, hh.2.2⟩)
      clear HM hlen
      go_region_held3 (fun wq => wq.cell? ⟨c, 3, none⟩ = some (.slice (some ⟨tb, 0, none⟩) s.ths.length s.ths.length) ∧ wq.cell? ⟨w.heap.size, 0, none⟩ = some (.int .u8 3) ∧ wq.cell? ⟨w.heap.size, 1, none⟩ = some (.int .i64 (i : Int)) ∧ wq.cell? ⟨w.heap.size, 2, none⟩ = some (.int .i64 tx) ∧ wq.cell? ⟨w.heap.size, 3, none⟩ = some (.int .i64 at_) ∧ wq.cell? ⟨w.heap.size, 4, none⟩ = some (.int .i64 v) ∧ wq.cell? ⟨w.heap.size, 5, none⟩ = some (.int .i64 x) ∧ wq.cell? ⟨w.heap.size, 6, none⟩ = some (.int .u8 why) ∧ wq.cell? ⟨w'.heap.size, 3, none⟩ = some (.func (.func 34) #[] #[]))
        (first | exact ⟨hc3, ht1.cell HN1.out q20, ht1.cell HN1.out q21, ht1.cell HN1.out q22, ht1.cell HN1.out q23, ht1.cell HN1.out q24, ht1.cell HN1.out q25, ht1.cell HN1.out q26, ht1.cell HN2.out e3f⟩ | go_keep)
        ((go_at_call 34; refine (HM2.out _ ?_).mono ?_; (focus repeat (first | assumption | exact ext_refl _ | refine ext_drew ?_ | refine ext_alloc ?_ _ | refine ext_trans ?_ (by assumption))); rintro e' w1 ⟨rfl, hc3, HK1, ht1⟩))
      all_goals (
        have ht2 : Turn [c, tb, sb] w w1 := (Turn.of_below hb2).trans ((Turn.refl _ _).drew.trans ht1)
        have HT2 := hid ht2
        clear ht1 ht2
        go_wp2_with fail
        go_ret
        exact Or.inr ⟨rfl, rfl, HK1.out, HT2.out⟩)
    | some s' =>
      have hl := hlen s' rfl
      have HM2 := hid fun W (hW : Below w.heap.size w W) => (HM.out W hW).mono (R' := fun e' w1 => e' = .returned (.bool true) ∧ (w1.cell? ⟨c, 3, none⟩ = some (.slice (some ⟨tb, 0, none⟩) s.ths.length s.ths.length)) ∧ Hid (CkAt w1 c tb sb s' ev) ∧ Turn [c, tb, sb] W w1) (fun e' w1 hh => ⟨hh.1, by rw [← hl]; exact (CkAt.cells hh.2.1).2.2.2.1, hid hh.2.1, hh.2.2⟩)
      clear HM hlen hl
      go_region_held3 (fun wq => wq.cell? ⟨c, 3, none⟩ = some (.slice (some ⟨tb, 0, none⟩) s.ths.length s.ths.length) ∧ wq.cell? ⟨w.heap.size, 0, none⟩ = some (.int .u8 3) ∧ wq.cell? ⟨w.heap.size, 1, none⟩ = some (.int .i64 (i : Int)) ∧ wq.cell? ⟨w.heap.size, 2, none⟩ = some (.int .i64 tx) ∧ wq.cell? ⟨w.heap.size, 3, none⟩ = some (.int .i64 at_) ∧ wq.cell? ⟨w.heap.size, 4, none⟩ = some (.int .i64 v) ∧ wq.cell? ⟨w.heap.size, 5, none⟩ = some (.int .i64 x) ∧ wq.cell? ⟨w.heap.size, 6, none⟩ = some (.int .u8 why) ∧ wq.cell? ⟨w'.heap.size, 3, none⟩ = some (.func (.func 34) #[] #[]))
        (first | exact ⟨hc3, ht1.cell HN1.out q20, ht1.cell HN1.out q21, ht1.cell HN1.out q22, ht1.cell HN1.out q23, ht1.cell HN1.out q24, ht1.cell HN1.out q25, ht1.cell HN1.out q26, ht1.cell HN2.out e3f⟩ | go_keep)
        ((go_at_call 34; refine (HM2.out _ ?_).mono ?_; (focus repeat (first | assumption | exact ext_refl _ | refine ext_drew ?_ | refine ext_alloc ?_ _ | refine ext_trans ?_ (by assumption))); rintro e' w1 ⟨rfl, hc3, HK1, ht1⟩))
      all_goals (
        have ht2 : Turn [c, tb, sb] w w1 := (Turn.of_below hb2).trans ((Turn.refl _ _).drew.trans ht1)
        have HT2 := hid ht2
        have h2 := (CkAt.cells HK1.out).2.2.1
        have f2 : w1.frozen? ⟨c, 2, none⟩ = false := HK1.out.ck.free 2
        clear ht1 ht2 q2 q3 hb2
        go_wp2_with fail
        go_ret
        exact Or.inl ⟨s', rfl, rfl, CkR.set_ev HK1.out _, HT2.out.setCell (Or.inl (by simp)) _⟩)

set_option maxRecDepth 100000 in
set_option maxHeartbeats 4000000 in
theorem next_4 (h : CkAt w c tb sb s ev) (hK : KindsAt w) (hev : ev < 1048576) (i : Nat) (hi : i < s.ths.length) (tx at_ v x why : Int) (he : EvOk ⟨4, i, tx, at_, v, x, why⟩) (hm : mayE ⟨4, i, tx, at_, v, x, why⟩ s.ths.length s.vars s.sts.length = true) (r : Option Sh) (hlen : ∀ s', r = some s' → s'.ths.length = s.ths.length)
    (HM : Hid (∀ W, Below w.heap.size w W → Calls Tryd.prog 35 #[.pointer (some ⟨c, 0, none⟩), .pointer (some ⟨tb, i * 13, none⟩), .agg #[.int .u8 4, .int .i64 (i : Int), .int .i64 tx, .int .i64 at_, .int .i64 v, .int .i64 x, .int .u8 why]] W (StepP W c tb sb s ev r))) :
    Calls Tryd.prog 23 #[.pointer (some ⟨c, 0, none⟩), .agg #[.int .u8 4, .int .i64 (i : Int), .int .i64 tx, .int .i64 at_, .int .i64 v, .int .i64 x, .int .u8 why]] w (NextP w c tb sb s ev r) := by
  obtain ⟨c0, c1, c2, c3, c4⟩ := h.cells
  have hcl := lt_of_cell c0
  have HH := hid h
  have hne := h.ne
  have htl := h.th.lt
  have hsl := h.st.lt
  have g1 : (ev : Int) < 1048576 := by omega
  have g2 : (0 : Int) ≤ (ev : Int) := by omega
  have g3 : decide ((1048576 : Int) ≤ (ev : Int)) = false := by rw [decide_eq_false_iff_not]; omega
  have g4 : (0 : Int) ≤ (i : Int) := by omega
  have g5 : (i : Int) < (s.ths.length : Int) := by omega
  have hmay := fun W (hW : Below w.heap.size w W) => may_any ⟨4, i, tx, at_, v, x, why⟩ s.ths.length s.vars s.sts.length W he (hK.below hW)
  rw [hm] at hmay
  dsimp only [evA] at hmay
  have HMAY := hid hmay
  clear hmay
  clear h hK he hm hev hi
  go_enter Tryd.func23, Tryd.ntmps23
  go_wp2_with fail
  have b0 := (Blk.new w #[.int .u8 4, .int .i64 (i : Int), .int .i64 tx, .int .i64 at_, .int .i64 v, .int .i64 x, .int .u8 why] 45)
  apply wp_region_vals' [.agg #[.int .u8 4, .int .i64 (i : Int), .int .i64 tx, .int .i64 at_, .int .i64 v, .int .i64 x, .int .u8 why], .pointer (some ⟨c, 0, none⟩), .pointer (some ⟨c, 0, none⟩), .pointer (some ⟨c, 3, none⟩), .slice (some ⟨tb, 0, none⟩) s.ths.length s.ths.length, .int .i64 (s.ths.length : Int), .pointer (some ⟨c, 0, none⟩), .pointer (some ⟨c, 0, none⟩), .pointer (some ⟨c, 0, none⟩), .int .i64 s.vars, .pointer (some ⟨c, 0, none⟩), .pointer (some ⟨c, 0, none⟩), .pointer (some ⟨c, 4, none⟩), .slice (some ⟨sb, 0, none⟩) s.sts.length s.sts.length, .int .i64 (s.sts.length : Int), .bool true, .bool false, .bool false] (fun w' => Below (w.alloc (.cells #[.int .u8 4, .int .i64 (i : Int), .int .i64 tx, .int .i64 at_, .int .i64 v, .int .i64 x, .int .u8 why] 45)).heap.size (w.alloc (.cells #[.int .u8 4, .int .i64 (i : Int), .int .i64 tx, .int .i64 at_, .int .i64 v, .int .i64 x, .int .u8 why] 45)) w')
  focus (simp [putAll, dstOf, Act.put, List.getD]; rfl)
  case hm => kernel_rfl
  case hd => kernel_rfl
  case hb => kernel_rfl
  case hdep => kernel_rfl
  case hsel => kernel_rfl
  case hsz => kernel_rfl
  case h0 => exact ext_drew (ext_refl _)
  case hstep =>
    repeat' (first | exact trivial | (refine And.intro ?_ ?_))
    all_goals (
      intro w' hG
      rw [if_pos (by kernel_rfl)]
      intro K Qp hK
      have d0 := later hG (cell_alloc c0)
      have d3 := later hG (cell_alloc c3)
      have d4 := later hG (cell_alloc c4)
      have d20 := later hG (b0.cell 0 rfl)
      have d21 := later hG (b0.cell 1 rfl)
      have d22 := later hG (b0.cell 2 rfl)
      have d23 := later hG (b0.cell 3 rfl)
      have d24 := later hG (b0.cell 4 rfl)
      have d25 := later hG (b0.cell 5 rfl)
      have d26 := later hG (b0.cell 6 rfl)
      have hb0 : Below w.heap.size w w' := ext_trans (ext_alloc (ext_refl _) _) hG
      have HB0 := hid hb0
      have HGG := hid hG
      clear hb0 hG c0 c1 c2 c3 c4 b0
      go_simp
      first
      | exact hK _ HGG.out
      | (go_wp2_with ((with_reducible refine (HMAY.out _ HB0.out).mono ?_); rintro e' w1 ⟨rfl, hb1⟩)
         first | (with_reducible exact HGG.out) | exact ext_trans HGG.out hb1 | exact hK _ HGG.out | exact hK _ (ext_trans HGG.out hb1)))
  case hdone =>
    intro w' hG
    have hb : Below w.heap.size w w' := ext_trans (ext_alloc (ext_refl _) _) hG
    have d2 := later hb c2
    have d3 := later hb c3
    have d20 := later hG (b0.cell 0 rfl)
    have d21 := later hG (b0.cell 1 rfl)
    have d22 := later hG (b0.cell 2 rfl)
    have d23 := later hG (b0.cell 3 rfl)
    have d24 := later hG (b0.cell 4 rfl)
    have d25 := later hG (b0.cell 5 rfl)
    have d26 := later hG (b0.cell 6 rfl)
    have z1 : w.heap.size < w'.heap.size := by have := hG.size; simp at this; omega
    have hc1 : c < w'.heap.size := by omega
    have ht1 : tb < w'.heap.size := by omega
    have hs1 : sb < w'.heap.size := by omega
    have HB := hid hb
    have HWZ := hid (show c ≠ w.heap.size ∧ tb ≠ w.heap.size ∧ sb ≠ w.heap.size by omega)
    clear hb hG c0 c1 c2 c3 c4 b0
    have bz := Blk.new w' #[.nilFunc, .nilFunc, .nilFunc, .nilFunc, .nilFunc, .nilFunc, .nilFunc, .nilFunc, .nilFunc, .nilFunc, .nilFunc, .nilFunc, .nilFunc, .nilFunc] 78
    have hth := there_blk (n := 14) bz rfl
    have hi1 : (Tryd.prog.info? 78).map (·.size) = some (#[.nilFunc, .func (.func 32) #[] #[], .func (.func 33) #[] #[], .func (.func 34) #[] #[], .func (.func 35) #[] #[], .func (.func 36) #[] #[], .func (.func 37) #[] #[], .func (.func 38) #[] #[], .func (.func 39) #[] #[], .func (.func 40) #[] #[], .func (.func 41) #[] #[], .func (.func 42) #[] #[], .func (.func 43) #[] #[], .func (.func 44) #[] #[]] : Array Value).size := by kernel_rfl
    have hi2 : (#[.nilFunc, .func (.func 32) #[] #[], .func (.func 33) #[] #[], .func (.func 34) #[] #[], .func (.func 35) #[] #[], .func (.func 36) #[] #[], .func (.func 37) #[] #[], .func (.func 38) #[] #[], .func (.func 39) #[] #[], .func (.func 40) #[] #[], .func (.func 41) #[] #[], .func (.func 42) #[] #[], .func (.func 43) #[] #[], .func (.func 44) #[] #[]] : Array Value).all (·.oneCell') = true := by kernel_rfl
    have HI1 := hid hi1
    have HI2 := hid hi2
    have HTH := hid hth
    clear hi1 hi2 hth
    go_wp2_with (refine wpList_store_mid rfl 78 (.tmp 5) (.tmp 33) rfl w'.heap.size 0 #[.nilFunc, .func (.func 32) #[] #[], .func (.func 33) #[] #[], .func (.func 34) #[] #[], .func (.func 35) #[] #[], .func (.func 36) #[] #[], .func (.func 37) #[] #[], .func (.func 38) #[] #[], .func (.func 39) #[] #[], .func (.func 40) #[] #[], .func (.func 41) #[] #[], .func (.func 42) #[] #[], .func (.func 43) #[] #[], .func (.func 44) #[] #[]] rfl rfl HTH.out HI1.out HI2.out ?_)
    have e4f := setCells_cell bz (#[.nilFunc, .func (.func 32) #[] #[], .func (.func 33) #[] #[], .func (.func 34) #[] #[], .func (.func 35) #[] #[], .func (.func 36) #[] #[], .func (.func 37) #[] #[], .func (.func 38) #[] #[], .func (.func 39) #[] #[], .func (.func 40) #[] #[], .func (.func 41) #[] #[], .func (.func 42) #[] #[], .func (.func 43) #[] #[], .func (.func 44) #[] #[]] : Array Value).toList rfl 4 (v := .func (.func 35) #[] #[]) rfl
    have hbz : Below w'.heap.size w' ((w'.alloc (.cells #[.nilFunc, .nilFunc, .nilFunc, .nilFunc, .nilFunc, .nilFunc, .nilFunc, .nilFunc, .nilFunc, .nilFunc, .nilFunc, .nilFunc, .nilFunc, .nilFunc] 78)).setCells w'.heap.size 0 (#[.nilFunc, .func (.func 32) #[] #[], .func (.func 33) #[] #[], .func (.func 34) #[] #[], .func (.func 35) #[] #[], .func (.func 36) #[] #[], .func (.func 37) #[] #[], .func (.func 38) #[] #[], .func (.func 39) #[] #[], .func (.func 40) #[] #[], .func (.func 41) #[] #[], .func (.func 42) #[] #[], .func (.func 43) #[] #[], .func (.func 44) #[] #[]] : Array Value).toList) := (ext_alloc (ext_refl w') _).trans (setCells_below (B := w'.heap.size) (Nat.le_refl _) _ 0 _)
    generalize hW : (w'.alloc (.cells #[.nilFunc, .nilFunc, .nilFunc, .nilFunc, .nilFunc, .nilFunc, .nilFunc, .nilFunc, .nilFunc, .nilFunc, .nilFunc, .nilFunc, .nilFunc, .nilFunc] 78)).setCells w'.heap.size 0 (#[.nilFunc, .func (.func 32) #[] #[], .func (.func 33) #[] #[], .func (.func 34) #[] #[], .func (.func 35) #[] #[], .func (.func 36) #[] #[], .func (.func 37) #[] #[], .func (.func 38) #[] #[], .func (.func 39) #[] #[], .func (.func 40) #[] #[], .func (.func 41) #[] #[], .func (.func 42) #[] #[], .func (.func 43) #[] #[], .func (.func 44) #[] #[]] : Array Value).toList = W2 at *
    have HBZ := hid hbz
    have q2 := later hbz d2
    have q3 := later hbz d3
    have q20 := later hbz d20
    have q21 := later hbz d21
    have q22 := later hbz d22
    have q23 := later hbz d23
    have q24 := later hbz d24
    have q25 := later hbz d25
    have q26 := later hbz d26
    have z2 := hbz.size
    have hc2 : c < W2.heap.size := by omega
    have ht2 : tb < W2.heap.size := by omega
    have hs2 : sb < W2.heap.size := by omega
    have HZZ := hid (show c ≠ w'.heap.size ∧ tb ≠ w'.heap.size ∧ sb ≠ w'.heap.size by omega)
    clear hW hbz bz d2 d3 d20 d21 d22 d23 d24 d25 d26
    have hb2 : Below w.heap.size w W2 := ext_trans HB.out HBZ.out
    have HN1 := hid (show w.heap.size ∉ [c, tb, sb] by have := HWZ.out; simp; omega)
    have HN2 := hid (show w'.heap.size ∉ [c, tb, sb] by have := HZZ.out; simp; omega)
    cases r with
    | none =>
      have HM2 := hid fun W (hW : Below w.heap.size w W) => (HM.out W hW).mono (R' := fun e' w1 => e' = .returned (.bool false) ∧ (w1.cell? ⟨c, 3, none⟩ = some (.slice (some ⟨tb, 0, none⟩) s.ths.length s.ths.length)) ∧ Hid (CkAt w1 c tb sb s ev) ∧ Turn [c, tb, sb] W w1) (fun e' w1 hh => ⟨hh.1, (CkAt.cells hh.2.1).2.2.2.1, hid hh.2.1, hh.2.2⟩)
      clear HM hlen
      go_region_held3 (fun wq => wq.cell? ⟨c, 3, none⟩ = some (.slice (some ⟨tb, 0, none⟩) s.ths.length s.ths.length) ∧ wq.cell? ⟨w.heap.size, 0, none⟩ = some (.int .u8 4) ∧ wq.cell? ⟨w.heap.size, 1, none⟩ = some (.int .i64 (i : Int)) ∧ wq.cell? ⟨w.heap.size, 2, none⟩ = some (.int .i64 tx) ∧ wq.cell? ⟨w.heap.size, 3, none⟩ = some (.int .i64 at_) ∧ wq.cell? ⟨w.heap.size, 4, none⟩ = some (.int .i64 v) ∧ wq.cell? ⟨w.heap.size, 5, none⟩ = some (.int .i64 x) ∧ wq.cell? ⟨w.heap.size, 6, none⟩ = some (.int .u8 why) ∧ wq.cell? ⟨w'.heap.size, 4, none⟩ = some (.func (.func 35) #[] #[]))
        (first | exact ⟨hc3, ht1.cell HN1.out q20, ht1.cell HN1.out q21, ht1.cell HN1.out q22, ht1.cell HN1.out q23, ht1.cell HN1.out q24, ht1.cell HN1.out q25, ht1.cell HN1.out q26, ht1.cell HN2.out e4f⟩ | go_keep)
        ((go_at_call 35; refine (HM2.out _ ?_).mono ?_; (focus repeat (first | assumption | exact ext_refl _ | refine ext_drew ?_ | refine ext_alloc ?_ _ | refine ext_trans ?_ (by assumption))); rintro e' w1 ⟨rfl, hc3, HK1, ht1⟩))
      all_goals (
        have ht2 : Turn [c, tb, sb] w w1 := (Turn.of_below hb2).trans ((Turn.refl _ _).drew.trans ht1)
        have HT2 := hid ht2
        clear ht1 ht2
        go_wp2_with fail
        go_ret
        exact Or.inr ⟨rfl, rfl, HK1.out, HT2.out⟩)
    | some s' =>
      have hl := hlen s' rfl
      have HM2 := hid fun W (hW : Below w.heap.size w W) => (HM.out W hW).mono (R' := fun e' w1 => e' = .returned (.bool true) ∧ (w1.cell? ⟨c, 3, none⟩ = some (.slice (some ⟨tb, 0, none⟩) s.ths.length s.ths.length)) ∧ Hid (CkAt w1 c tb sb s' ev) ∧ Turn [c, tb, sb] W w1) (fun e' w1 hh => ⟨hh.1, by rw [← hl]; exact (CkAt.cells hh.2.1).2.2.2.1, hid hh.2.1, hh.2.2⟩)
      clear HM hlen hl
      go_region_held3 (fun wq => wq.cell? ⟨c, 3, none⟩ = some (.slice (some ⟨tb, 0, none⟩) s.ths.length s.ths.length) ∧ wq.cell? ⟨w.heap.size, 0, none⟩ = some (.int .u8 4) ∧ wq.cell? ⟨w.heap.size, 1, none⟩ = some (.int .i64 (i : Int)) ∧ wq.cell? ⟨w.heap.size, 2, none⟩ = some (.int .i64 tx) ∧ wq.cell? ⟨w.heap.size, 3, none⟩ = some (.int .i64 at_) ∧ wq.cell? ⟨w.heap.size, 4, none⟩ = some (.int .i64 v) ∧ wq.cell? ⟨w.heap.size, 5, none⟩ = some (.int .i64 x) ∧ wq.cell? ⟨w.heap.size, 6, none⟩ = some (.int .u8 why) ∧ wq.cell? ⟨w'.heap.size, 4, none⟩ = some (.func (.func 35) #[] #[]))
        (first | exact ⟨hc3, ht1.cell HN1.out q20, ht1.cell HN1.out q21, ht1.cell HN1.out q22, ht1.cell HN1.out q23, ht1.cell HN1.out q24, ht1.cell HN1.out q25, ht1.cell HN1.out q26, ht1.cell HN2.out e4f⟩ | go_keep)
        ((go_at_call 35; refine (HM2.out _ ?_).mono ?_; (focus repeat (first | assumption | exact ext_refl _ | refine ext_drew ?_ | refine ext_alloc ?_ _ | refine ext_trans ?_ (by assumption))); rintro e' w1 ⟨rfl, hc3, HK1, ht1⟩))
      all_goals (
        have ht2 : Turn [c, tb, sb] w w1 := (Turn.of_below hb2).trans ((Turn.refl _ _).drew.trans ht1)
        have HT2 := hid ht2
        have h2 := (CkAt.cells HK1.out).2.2.1
        have f2 : w1.frozen? ⟨c, 2, none⟩ = false := HK1.out.ck.free 2
        clear ht1 ht2 q2 q3 hb2
        go_wp2_with fail
        go_ret
        exact Or.inl ⟨s', rfl, rfl, CkR.set_ev HK1.out _, HT2.out.setCell (Or.inl (by simp)) _⟩)
end
end Go.Proofs.YtjckgagkkknmnaaDoor
/-
  The checker; walks: Next, Kind by Kind (5 to 8).
-/
namespace Go.Proofs.YtjckgagkkknmnaaDoor
set_option linter.unusedVariables false
set_option linter.unusedSimpArgs false
open Go Go.RowKit
section
variable {w : World} {c tb sb : Nat} {s : Sh} {ev : Nat}

set_option maxRecDepth 100000 in
set_option maxHeartbeats 4000000 in
theorem next_5 (h : CkAt w c tb sb s ev) (hK : KindsAt w) (hev : ev < 1048576) (i : Nat) (hi : i < s.ths.length) (tx at_ v x why : Int) (he : EvOk ⟨5, i, tx, at_, v, x, why⟩) (hm : mayE ⟨5, i, tx, at_, v, x, why⟩ s.ths.length s.vars s.sts.length = true) (r : Option Sh) (hlen : ∀ s', r = some s' → s'.ths.length = s.ths.length)
    (HM : Hid (∀ W, Below w.heap.size w W → Calls Tryd.prog 36 #[.pointer (some ⟨c, 0, none⟩), .pointer (some ⟨tb, i * 13, none⟩), .agg #[.int .u8 5, .int .i64 (i : Int), .int .i64 tx, .int .i64 at_, .int .i64 v, .int .i64 x, .int .u8 why]] W (StepP W c tb sb s ev r))) :
    Calls Tryd.prog 23 #[.pointer (some ⟨c, 0, none⟩), .agg #[.int .u8 5, .int .i64 (i : Int), .int .i64 tx, .int .i64 at_, .int .i64 v, .int .i64 x, .int .u8 why]] w (NextP w c tb sb s ev r) := by
  obtain ⟨c0, c1, c2, c3, c4⟩ := h.cells
  have hcl := lt_of_cell c0
  have HH := hid h
  have hne := h.ne
  have htl := h.th.lt
  have hsl := h.st.lt
  have g1 : (ev : Int) < 1048576 := by omega
  have g2 : (0 : Int) ≤ (ev : Int) := by omega
  have g3 : decide ((1048576 : Int) ≤ (ev : Int)) = false := by rw [decide_eq_false_iff_not]; omega
  have g4 : (0 : Int) ≤ (i : Int) := by omega
  have g5 : (i : Int) < (s.ths.length : Int) := by omega
  have hmay := fun W (hW : Below w.heap.size w W) => may_any ⟨5, i, tx, at_, v, x, why⟩ s.ths.length s.vars s.sts.length W he (hK.below hW)
  rw [hm] at hmay
  dsimp only [evA] at hmay
  have HMAY := hid hmay
  clear hmay
  clear h hK he hm hev hi
  go_enter Tryd.func23, Tryd.ntmps23
  go_wp2_with fail
  have b0 := (Blk.new w #[.int .u8 5, .int .i64 (i : Int), .int .i64 tx, .int .i64 at_, .int .i64 v, .int .i64 x, .int .u8 why] 45)
  apply wp_region_vals' [.agg #[.int .u8 5, .int .i64 (i : Int), .int .i64 tx, .int .i64 at_, .int .i64 v, .int .i64 x, .int .u8 why], .pointer (some ⟨c, 0, none⟩), .pointer (some ⟨c, 0, none⟩), .pointer (some ⟨c, 3, none⟩), .slice (some ⟨tb, 0, none⟩) s.ths.length s.ths.length, .int .i64 (s.ths.length : Int), .pointer (some ⟨c, 0, none⟩), .pointer (some ⟨c, 0, none⟩), .pointer (some ⟨c, 0, none⟩), .int .i64 s.vars, .pointer (some ⟨c, 0, none⟩), .pointer (some ⟨c, 0, none⟩), .pointer (some ⟨c, 4, none⟩), .slice (some ⟨sb, 0, none⟩) s.sts.length s.sts.length, .int .i64 (s.sts.length : Int), .bool true, .bool false, .bool false] (fun w' => Below (w.alloc (.cells #[.int .u8 5, .int .i64 (i : Int), .int .i64 tx, .int .i64 at_, .int .i64 v, .int .i64 x, .int .u8 why] 45)).heap.size (w.alloc (.cells #[.int .u8 5, .int .i64 (i : Int), .int .i64 tx, .int .i64 at_, .int .i64 v, .int .i64 x, .int .u8 why] 45)) w')
  focus (simp [putAll, dstOf, Act.put, List.getD]; rfl)
  case hm => kernel_rfl
  case hd => kernel_rfl
  case hb => kernel_rfl
  case hdep => kernel_rfl
  case hsel => kernel_rfl
  case hsz => kernel_rfl
  case h0 => exact ext_drew (ext_refl _)
  case hstep =>
    repeat' (first | exact trivial | (refine And.intro ?_ ?_))
    all_goals (
      intro w' hG
      rw [if_pos (by kernel_rfl)]
      intro K Qp hK
      have d0 := later hG (cell_alloc c0)
      have d3 := later hG (cell_alloc c3)
      have d4 := later hG (cell_alloc c4)
      have d20 := later hG (b0.cell 0 rfl)
      have d21 := later hG (b0.cell 1 rfl)
      have d22 := later hG (b0.cell 2 rfl)
      have d23 := later hG (b0.cell 3 rfl)
      have d24 := later hG (b0.cell 4 rfl)
      have d25 := later hG (b0.cell 5 rfl)
      have d26 := later hG (b0.cell 6 rfl)
      have hb0 : Below w.heap.size w w' := ext_trans (ext_alloc (ext_refl _) _) hG
      have HB0 := hid hb0
      have HGG := hid hG
      clear hb0 hG c0 c1 c2 c3 c4 b0
      go_simp
      first
      | exact hK _ HGG.out
      | (go_wp2_with ((with_reducible refine (HMAY.out _ HB0.out).mono ?_); rintro e' w1 ⟨rfl, hb1⟩)
         first | (with_reducible exact HGG.out) | exact ext_trans HGG.out hb1 | exact hK _ HGG.out | exact hK _ (ext_trans HGG.out hb1)))
  case hdone =>
    intro w' hG
    have hb : Below w.heap.size w w' := ext_trans (ext_alloc (ext_refl _) _) hG
    have d2 := later hb c2
    have d3 := later hb c3
    have d20 := later hG (b0.cell 0 rfl)
    have d21 := later hG (b0.cell 1 rfl)
    have d22 := later hG (b0.cell 2 rfl)
    have d23 := later hG (b0.cell 3 rfl)
    have d24 := later hG (b0.cell 4 rfl)
    have d25 := later hG (b0.cell 5 rfl)
    have d26 := later hG (b0.cell 6 rfl)
    have z1 : w.heap.size < w'.heap.size := by have := hG.size; simp at this; omega
    have hc1 : c < w'.heap.size := by omega
    have ht1 : tb < w'.heap.size := by omega
    have hs1 : sb < w'.heap.size := by omega
    have HB := hid hb
    have HWZ := hid (show c ≠ w.heap.size ∧ tb ≠ w.heap.size ∧ sb ≠ w.heap.size by omega)
    clear hb hG c0 c1 c2 c3 c4 b0
    have bz := Blk.new w' #[.nilFunc, .nilFunc, .nilFunc, .nilFunc, .nilFunc, .nilFunc, .nilFunc, .nilFunc, .nilFunc, .nilFunc, .nilFunc, .nilFunc, .nilFunc, .nilFunc] 78
    have hth := there_blk (n := 14) bz rfl
    have hi1 : (Tryd.prog.info? 78).map (·.size) = some (#[.nilFunc, .func (.func 32) #[] #[], .func (.func 33) #[] #[], .func (.func 34) #[] #[], .func (.func 35) #[] #[], .func (.func 36) #[] #[], .func (.func 37) #[] #[], .func (.func 38) #[] #[], .func (.func 39) #[] #[], .func (.func 40) #[] #[], .func (.func 41) #[] #[], .func (.func 42) #[] #[], .func (.func 43) #[] #[], .func (.func 44) #[] #[]] : Array Value).size := by kernel_rfl
    have hi2 : (#[.nilFunc, .func (.func 32) #[] #[], .func (.func 33) #[] #[], .func (.func 34) #[] #[], .func (.func 35) #[] #[], .func (.func 36) #[] #[], .func (.func 37) #[] #[], .func (.func 38) #[] #[], .func (.func 39) #[] #[], .func (.func 40) #[] #[], .func (.func 41) #[] #[], .func (.func 42) #[] #[], .func (.func 43) #[] #[], .func (.func 44) #[] #[]] : Array Value).all (·.oneCell') = true := by kernel_rfl
    have HI1 := hid hi1
    have HI2 := hid hi2
    have HTH := hid hth
    clear hi1 hi2 hth
    go_wp2_with (refine wpList_store_mid rfl 78 (.tmp 5) (.tmp 33) rfl w'.heap.size 0 #[.nilFunc, .func (.func 32) #[] #[], .func (.func 33) #[] #[], .func (.func 34) #[] #[], .func (.func 35) #[] #[], .func (.func 36) #[] #[], .func (.func 37) #[] #[], .func (.func 38) #[] #[], .func (.func 39) #[] #[], .func (.func 40) #[] #[], .func (.func 41) #[] #[], .func (.func 42) #[] #[], .func (.func 43) #[] #[], .func (.func 44) #[] #[]] rfl rfl HTH.out HI1.out HI2.out ?_)
    have e5f := setCells_cell bz (#[.nilFunc, .func (.func 32) #[] #[], .func (.func 33) #[] #[], .func (.func 34) #[] #[], .func (.func 35) #[] #[], .func (.func 36) #[] #[], .func (.func 37) #[] #[], .func (.func 38) #[] #[], .func (.func 39) #[] #[], .func (.func 40) #[] #[], .func (.func 41) #[] #[], .func (.func 42) #[] #[], .func (.func 43) #[] #[], .func (.func 44) #[] #[]] : Array Value).toList rfl 5 (v := .func (.func 36) #[] #[]) rfl
    have hbz : Below w'.heap.size w' ((w'.alloc (.cells #[.nilFunc, .nilFunc, .nilFunc, .nilFunc, .nilFunc, .nilFunc, .nilFunc, .nilFunc, .nilFunc, .nilFunc, .nilFunc, .nilFunc, .nilFunc, .nilFunc] 78)).setCells w'.heap.size 0 (#[.nilFunc, .func (.func 32) #[] #[], .func (.func 33) #[] #[], .func (.func 34) #[] #[], .func (.func 35) #[] #[], .func (.func 36) #[] #[], .func (.func 37) #[] #[], .func (.func 38) #[] #[], .func (.func 39) #[] #[], .func (.func 40) #[] #[], .func (.func 41) #[] #[], .func (.func 42) #[] #[], .func (.func 43) #[] #[], .func (.func 44) #[] #[]] : Array Value).toList) := (ext_alloc (ext_refl w') _).trans (setCells_below (B := w'.heap.size) (Nat.le_refl _) _ 0 _)
    generalize hW : (w'.alloc (.cells #[.nilFunc, .nilFunc, .nilFunc, .nilFunc, .nilFunc, .nilFunc, .nilFunc, .nilFunc, .nilFunc, .nilFunc, .nilFunc, .nilFunc, .nilFunc, .nilFunc] 78)).setCells w'.heap.size 0 (#[.nilFunc, .func (.func 32) #[] #[], .func (.func 33) #[] #[], .func (.func 34) #[] #[], .func (.func 35) #[] #[], .func (.func 36) #[] #[], .func (.func 37) #[] #[], .func (.func 38) #[] #[], .func (.func 39) #[] #[], .func (.func 40) #[] #[], .func (.func 41) #[] #[], .func (.func 42) #[] #[], .func (.func 43) #[] #[], .func (.func 44) #[] #[]] : Array Value).toList = W2 at *
    have HBZ := hid hbz
    have q2 := later hbz d2
    have q3 := later hbz d3
    have q20 := later hbz d20
    have q21 := later hbz d21
    have q22 := later hbz d22
    have q23 := later hbz d23
    have q24 := later hbz d24
    have q25 := later hbz d25
    have q26 := later hbz d26
    have z2 := hbz.size
    have hc2 : c < W2.heap.size := by omega
    have ht2 : tb < W2.heap.size := by omega
    have hs2 : sb < W2.heap.size := by omega
    have HZZ := hid (show c ≠ w'.heap.size ∧ tb ≠ w'.heap.size ∧ sb ≠ w'.heap.size by omega)
    clear hW hbz bz d2 d3 d20 d21 d22 d23 d24 d25 d26
    have hb2 : Below w.heap.size w W2 := ext_trans HB.out HBZ.out
    have HN1 := hid (show w.heap.size ∉ [c, tb, sb] by have := HWZ.out; simp; omega)
    have HN2 := hid (show w'.heap.size ∉ [c, tb, sb] by have := HZZ.out; simp; omega)
    cases r with
    | none =>
      have HM2 := hid fun W (hW : Below w.heap.size w W) => (HM.out W hW).mono (R' := fun e' w1 => e' = .returned (.bool false) ∧ (w1.cell? ⟨c, 3, none⟩ = some (.slice (some ⟨tb, 0, none⟩) s.ths.length s.ths.length)) ∧ Hid (CkAt w1 c tb sb s ev) ∧ Turn [c, tb, sb] W w1) (fun e' w1 hh => ⟨hh.1, (CkAt.cells hh.2.1).2.2.2.1, hid hh.2.1, hh.2.2⟩)
      clear HM hlen
      go_region_held3 (fun wq => wq.cell? ⟨c, 3, none⟩ = some (.slice (some ⟨tb, 0, none⟩) s.ths.length s.ths.length) ∧ wq.cell? ⟨w.heap.size, 0, none⟩ = some (.int .u8 5) ∧ wq.cell? ⟨w.heap.size, 1, none⟩ = some (.int .i64 (i : Int)) ∧ wq.cell? ⟨w.heap.size, 2, none⟩ = some (.int .i64 tx) ∧ wq.cell? ⟨w.heap.size, 3, none⟩ = some (.int .i64 at_) ∧ wq.cell? ⟨w.heap.size, 4, none⟩ = some (.int .i64 v) ∧ wq.cell? ⟨w.heap.size, 5, none⟩ = some (.int .i64 x) ∧ wq.cell? ⟨w.heap.size, 6, none⟩ = some (.int .u8 why) ∧ wq.cell? ⟨w'.heap.size, 5, none⟩ = some (.func (.func 36) #[] #[]))
        (first | exact ⟨hc3, ht1.cell HN1.out q20, ht1.cell HN1.out q21, ht1.cell HN1.out q22, ht1.cell HN1.out q23, ht1.cell HN1.out q24, ht1.cell HN1.out q25, ht1.cell HN1.out q26, ht1.cell HN2.out e5f⟩ | go_keep)
        ((go_at_call 36; refine (HM2.out _ ?_).mono ?_; (focus repeat (first | assumption | exact ext_refl _ | refine ext_drew ?_ | refine ext_alloc ?_ _ | refine ext_trans ?_ (by assumption))); rintro e' w1 ⟨rfl, hc3, HK1, ht1⟩))
      all_goals (
        have ht2 : Turn [c, tb, sb] w w1 := (Turn.of_below hb2).trans ((Turn.refl _ _).drew.trans ht1)
        have HT2 := hid ht2
        clear ht1 ht2
        go_wp2_with fail
        go_ret
        exact Or.inr ⟨rfl, rfl, HK1.out, HT2.out⟩)
    | some s' =>
      have hl := hlen s' rfl
      have HM2 := hid fun W (hW : Below w.heap.size w W) => (HM.out W hW).mono (R' := fun e' w1 => e' = .returned (.bool true) ∧ (w1.cell? ⟨c, 3, none⟩ = some (.slice (some ⟨tb, 0, none⟩) s.ths.length s.ths.length)) ∧ Hid (CkAt w1 c tb sb s' ev) ∧ Turn [c, tb, sb] W w1) (fun e' w1 hh => ⟨hh.1, by rw [← hl]; exact (CkAt.cells hh.2.1).2.2.2.1, hid hh.2.1, hh.2.2⟩)
      clear HM hlen hl
      go_region_held3 (fun wq => wq.cell? ⟨c, 3, none⟩ = some (.slice (some ⟨tb, 0, none⟩) s.ths.length s.ths.length) ∧ wq.cell? ⟨w.heap.size, 0, none⟩ = some (.int .u8 5) ∧ wq.cell? ⟨w.heap.size, 1, none⟩ = some (.int .i64 (i : Int)) ∧ wq.cell? ⟨w.heap.size, 2, none⟩ = some (.int .i64 tx) ∧ wq.cell? ⟨w.heap.size, 3, none⟩ = some (.int .i64 at_) ∧ wq.cell? ⟨w.heap.size, 4, none⟩ = some (.int .i64 v) ∧ wq.cell? ⟨w.heap.size, 5, none⟩ = some (.int .i64 x) ∧ wq.cell? ⟨w.heap.size, 6, none⟩ = some (.int .u8 why) ∧ wq.cell? ⟨w'.heap.size, 5, none⟩ = some (.func (.func 36) #[] #[]))
        (first | exact ⟨hc3, ht1.cell HN1.out q20, ht1.cell HN1.out q21, ht1.cell HN1.out q22, ht1.cell HN1.out q23, ht1.cell HN1.out q24, ht1.cell HN1.out q25, ht1.cell HN1.out q26, ht1.cell HN2.out e5f⟩ | go_keep)
        ((go_at_call 36; refine (HM2.out _ ?_).mono ?_; (focus repeat (first | assumption | exact ext_refl _ | refine ext_drew ?_ | refine ext_alloc ?_ _ | refine ext_trans ?_ (by assumption))); rintro e' w1 ⟨rfl, hc3, HK1, ht1⟩))
      all_goals (
        have ht2 : Turn [c, tb, sb] w w1 := (Turn.of_below hb2).trans ((Turn.refl _ _).drew.trans ht1)
        have HT2 := hid ht2
        have h2 := (CkAt.cells HK1.out).2.2.1
        have f2 : w1.frozen? ⟨c, 2, none⟩ = false := HK1.out.ck.free 2
        clear ht1 ht2 q2 q3 hb2
        go_wp2_with fail
        go_ret
        exact Or.inl ⟨s', rfl, rfl, CkR.set_ev HK1.out _, HT2.out.setCell (Or.inl (by simp)) _⟩)

set_option maxRecDepth 100000 in
set_option maxHeartbeats 4000000 in
theorem next_6 (h : CkAt w c tb sb s ev) (hK : KindsAt w) (hev : ev < 1048576) (i : Nat) (hi : i < s.ths.length) (tx at_ v x why : Int) (he : EvOk ⟨6, i, tx, at_, v, x, why⟩) (hm : mayE ⟨6, i, tx, at_, v, x, why⟩ s.ths.length s.vars s.sts.length = true) (r : Option Sh) (hlen : ∀ s', r = some s' → s'.ths.length = s.ths.length)
    (HM : Hid (∀ W, Below w.heap.size w W → Calls Tryd.prog 37 #[.pointer (some ⟨c, 0, none⟩), .pointer (some ⟨tb, i * 13, none⟩), .agg #[.int .u8 6, .int .i64 (i : Int), .int .i64 tx, .int .i64 at_, .int .i64 v, .int .i64 x, .int .u8 why]] W (StepP W c tb sb s ev r))) :
    Calls Tryd.prog 23 #[.pointer (some ⟨c, 0, none⟩), .agg #[.int .u8 6, .int .i64 (i : Int), .int .i64 tx, .int .i64 at_, .int .i64 v, .int .i64 x, .int .u8 why]] w (NextP w c tb sb s ev r) := by
  obtain ⟨c0, c1, c2, c3, c4⟩ := h.cells
  have hcl := lt_of_cell c0
  have HH := hid h
  have hne := h.ne
  have htl := h.th.lt
  have hsl := h.st.lt
  have g1 : (ev : Int) < 1048576 := by omega
  have g2 : (0 : Int) ≤ (ev : Int) := by omega
  have g3 : decide ((1048576 : Int) ≤ (ev : Int)) = false := by rw [decide_eq_false_iff_not]; omega
  have g4 : (0 : Int) ≤ (i : Int) := by omega
  have g5 : (i : Int) < (s.ths.length : Int) := by omega
  have hmay := fun W (hW : Below w.heap.size w W) => may_any ⟨6, i, tx, at_, v, x, why⟩ s.ths.length s.vars s.sts.length W he (hK.below hW)
  rw [hm] at hmay
  dsimp only [evA] at hmay
  have HMAY := hid hmay
  clear hmay
  clear h hK he hm hev hi
  go_enter Tryd.func23, Tryd.ntmps23
  go_wp2_with fail
  have b0 := (Blk.new w #[.int .u8 6, .int .i64 (i : Int), .int .i64 tx, .int .i64 at_, .int .i64 v, .int .i64 x, .int .u8 why] 45)
  apply wp_region_vals' [.agg #[.int .u8 6, .int .i64 (i : Int), .int .i64 tx, .int .i64 at_, .int .i64 v, .int .i64 x, .int .u8 why], .pointer (some ⟨c, 0, none⟩), .pointer (some ⟨c, 0, none⟩), .pointer (some ⟨c, 3, none⟩), .slice (some ⟨tb, 0, none⟩) s.ths.length s.ths.length, .int .i64 (s.ths.length : Int), .pointer (some ⟨c, 0, none⟩), .pointer (some ⟨c, 0, none⟩), .pointer (some ⟨c, 0, none⟩), .int .i64 s.vars, .pointer (some ⟨c, 0, none⟩), .pointer (some ⟨c, 0, none⟩), .pointer (some ⟨c, 4, none⟩), .slice (some ⟨sb, 0, none⟩) s.sts.length s.sts.length, .int .i64 (s.sts.length : Int), .bool true, .bool false, .bool false] (fun w' => Below (w.alloc (.cells #[.int .u8 6, .int .i64 (i : Int), .int .i64 tx, .int .i64 at_, .int .i64 v, .int .i64 x, .int .u8 why] 45)).heap.size (w.alloc (.cells #[.int .u8 6, .int .i64 (i : Int), .int .i64 tx, .int .i64 at_, .int .i64 v, .int .i64 x, .int .u8 why] 45)) w')
  focus (simp [putAll, dstOf, Act.put, List.getD]; rfl)
  case hm => kernel_rfl
  case hd => kernel_rfl
  case hb => kernel_rfl
  case hdep => kernel_rfl
  case hsel => kernel_rfl
  case hsz => kernel_rfl
  case h0 => exact ext_drew (ext_refl _)
  case hstep =>
    repeat' (first | exact trivial | (refine And.intro ?_ ?_))
    all_goals (
      intro w' hG
      rw [if_pos (by kernel_rfl)]
      intro K Qp hK
      have d0 := later hG (cell_alloc c0)
      have d3 := later hG (cell_alloc c3)
      have d4 := later hG (cell_alloc c4)
      have d20 := later hG (b0.cell 0 rfl)
      have d21 := later hG (b0.cell 1 rfl)
      have d22 := later hG (b0.cell 2 rfl)
      have d23 := later hG (b0.cell 3 rfl)
      have d24 := later hG (b0.cell 4 rfl)
      have d25 := later hG (b0.cell 5 rfl)
      have d26 := later hG (b0.cell 6 rfl)
      have hb0 : Below w.heap.size w w' := ext_trans (ext_alloc (ext_refl _) _) hG
      have HB0 := hid hb0
      have HGG := hid hG
      clear hb0 hG c0 c1 c2 c3 c4 b0
      go_simp
      first
      | exact hK _ HGG.out
      | (go_wp2_with ((with_reducible refine (HMAY.out _ HB0.out).mono ?_); rintro e' w1 ⟨rfl, hb1⟩)
         first | (with_reducible exact HGG.out) | exact ext_trans HGG.out hb1 | exact hK _ HGG.out | exact hK _ (ext_trans HGG.out hb1)))
  case hdone =>
    intro w' hG
    have hb : Below w.heap.size w w' := ext_trans (ext_alloc (ext_refl _) _) hG
    have d2 := later hb c2
    have d3 := later hb c3
    have d20 := later hG (b0.cell 0 rfl)
    have d21 := later hG (b0.cell 1 rfl)
    have d22 := later hG (b0.cell 2 rfl)
    have d23 := later hG (b0.cell 3 rfl)
    have d24 := later hG (b0.cell 4 rfl)
    have d25 := later hG (b0.cell 5 rfl)
    have d26 := later hG (b0.cell 6 rfl)
    have z1 : w.heap.size < w'.heap.size := by have := hG.size; simp at this; omega
    have hc1 : c < w'.heap.size := by omega
    have ht1 : tb < w'.heap.size := by omega
    have hs1 : sb < w'.heap.size := by omega
    have HB := hid hb
    have HWZ := hid (show c ≠ w.heap.size ∧ tb ≠ w.heap.size ∧ sb ≠ w.heap.size by omega)
    clear hb hG c0 c1 c2 c3 c4 b0
    have bz := Blk.new w' #[.nilFunc, .nilFunc, .nilFunc, .nilFunc, .nilFunc, .nilFunc, .nilFunc, .nilFunc, .nilFunc, .nilFunc, .nilFunc, .nilFunc, .nilFunc, .nilFunc] 78
    have hth := there_blk (n := 14) bz rfl
    have hi1 : (Tryd.prog.info? 78).map (·.size) = some (#[.nilFunc, .func (.func 32) #[] #[], .func (.func 33) #[] #[], .func (.func 34) #[] #[], .func (.func 35) #[] #[], .func (.func 36) #[] #[], .func (.func 37) #[] #[], .func (.func 38) #[] #[], .func (.func 39) #[] #[], .func (.func 40) #[] #[], .func (.func 41) #[] #[], .func (.func 42) #[] #[], .func (.func 43) #[] #[], .func (.func 44) #[] #[]] : Array Value).size := by kernel_rfl
    have hi2 : (#[.nilFunc, .func (.func 32) #[] #[], .func (.func 33) #[] #[], .func (.func 34) #[] #[], .func (.func 35) #[] #[], .func (.func 36) #[] #[], .func (.func 37) #[] #[], .func (.func 38) #[] #[], .func (.func 39) #[] #[], .func (.func 40) #[] #[], .func (.func 41) #[] #[], .func (.func 42) #[] #[], .func (.func 43) #[] #[], .func (.func 44) #[] #[]] : Array Value).all (·.oneCell') = true := by kernel_rfl
    have HI1 := hid hi1
    have HI2 := hid hi2
    have HTH := hid hth
    clear hi1 hi2 hth
    go_wp2_with (refine wpList_store_mid rfl 78 (.tmp 5) (.tmp 33) rfl w'.heap.size 0 #[.nilFunc, .func (.func 32) #[] #[], .func (.func 33) #[] #[], .func (.func 34) #[] #[], .func (.func 35) #[] #[], .func (.func 36) #[] #[], .func (.func 37) #[] #[], .func (.func 38) #[] #[], .func (.func 39) #[] #[], .func (.func 40) #[] #[], .func (.func 41) #[] #[], .func (.func 42) #[] #[], .func (.func 43) #[] #[], .func (.func 44) #[] #[]] rfl rfl HTH.out HI1.out HI2.out ?_)
    have e6f := setCells_cell bz (#[.nilFunc, .func (.func 32) #[] #[], .func (.func 33) #[] #[], .func (.func 34) #[] #[], .func (.func 35) #[] #[], .func (.func 36) #[] #[], .func (.func 37) #[] #[], .func (.func 38) #[] #[], .func (.func 39) #[] #[], .func (.func 40) #[] #[], .func (.func 41) #[] #[], .func (.func 42) #[] #[], .func (.func 43) #[] #[], .func (.func 44) #[] #[]] : Array Value).toList rfl 6 (v := .func (.func 37) #[] #[]) rfl
    have hbz : Below w'.heap.size w' ((w'.alloc (.cells #[.nilFunc, .nilFunc, .nilFunc, .nilFunc, .nilFunc, .nilFunc, .nilFunc, .nilFunc, .nilFunc, .nilFunc, .nilFunc, .nilFunc, .nilFunc, .nilFunc] 78)).setCells w'.heap.size 0 (#[.nilFunc, .func (.func 32) #[] #[], .func (.func 33) #[] #[], .func (.func 34) #[] #[], .func (.func 35) #[] #[], .func (.func 36) #[] #[], .func (.func 37) #[] #[], .func (.func 38) #[] #[], .func (.func 39) #[] #[], .func (.func 40) #[] #[], .func (.func 41) #[] #[], .func (.func 42) #[] #[], .func (.func 43) #[] #[], .func (.func 44) #[] #[]] : Array Value).toList) := (ext_alloc (ext_refl w') _).trans (setCells_below (B := w'.heap.size) (Nat.le_refl _) _ 0 _)
    generalize hW : (w'.alloc (.cells #[.nilFunc, .nilFunc, .nilFunc, .nilFunc, .nilFunc, .nilFunc, .nilFunc, .nilFunc, .nilFunc, .nilFunc, .nilFunc, .nilFunc, .nilFunc, .nilFunc] 78)).setCells w'.heap.size 0 (#[.nilFunc, .func (.func 32) #[] #[], .func (.func 33) #[] #[], .func (.func 34) #[] #[], .func (.func 35) #[] #[], .func (.func 36) #[] #[], .func (.func 37) #[] #[], .func (.func 38) #[] #[], .func (.func 39) #[] #[], .func (.func 40) #[] #[], .func (.func 41) #[] #[], .func (.func 42) #[] #[], .func (.func 43) #[] #[], .func (.func 44) #[] #[]] : Array Value).toList = W2 at *
    have HBZ := hid hbz
    have q2 := later hbz d2
    have q3 := later hbz d3
    have q20 := later hbz d20
    have q21 := later hbz d21
    have q22 := later hbz d22
    have q23 := later hbz d23
    have q24 := later hbz d24
    have q25 := later hbz d25
    have q26 := later hbz d26
    have z2 := hbz.size
    have hc2 : c < W2.heap.size := by omega
    have ht2 : tb < W2.heap.size := by omega
    have hs2 : sb < W2.heap.size := by omega
    have HZZ := hid (show c ≠ w'.heap.size ∧ tb ≠ w'.heap.size ∧ sb ≠ w'.heap.size by omega)
    clear hW hbz bz d2 d3 d20 d21 d22 d23 d24 d25 d26
    have hb2 : Below w.heap.size w W2 := ext_trans HB.out HBZ.out
    have HN1 := hid (show w.heap.size ∉ [c, tb, sb] by have := HWZ.out; simp; omega)
    have HN2 := hid (show w'.heap.size ∉ [c, tb, sb] by have := HZZ.out; simp; omega)
    cases r with
    | none =>
      have HM2 := hid fun W (hW : Below w.heap.size w W) => (HM.out W hW).mono (R' := fun e' w1 => e' = .returned (.bool false) ∧ (w1.cell? ⟨c, 3, none⟩ = some (.slice (some ⟨tb, 0, none⟩) s.ths.length s.ths.length)) ∧ Hid (CkAt w1 c tb sb s ev) ∧ Turn [c, tb, sb] W w1) (fun e' w1 hh => ⟨hh.1, (CkAt.cells hh.2.1).2.2.2.1, hid hh.2.1, hh.2.2⟩)
      clear HM hlen
      go_region_held3 (fun wq => wq.cell? ⟨c, 3, none⟩ = some (.slice (some ⟨tb, 0, none⟩) s.ths.length s.ths.length) ∧ wq.cell? ⟨w.heap.size, 0, none⟩ = some (.int .u8 6) ∧ wq.cell? ⟨w.heap.size, 1, none⟩ = some (.int .i64 (i : Int)) ∧ wq.cell? ⟨w.heap.size, 2, none⟩ = some (.int .i64 tx) ∧ wq.cell? ⟨w.heap.size, 3, none⟩ = some (.int .i64 at_) ∧ wq.cell? ⟨w.heap.size, 4, none⟩ = some (.int .i64 v) ∧ wq.cell? ⟨w.heap.size, 5, none⟩ = some (.int .i64 x) ∧ wq.cell? ⟨w.heap.size, 6, none⟩ = some (.int .u8 why) ∧ wq.cell? ⟨w'.heap.size, 6, none⟩ = some (.func (.func 37) #[] #[]))
        (first | exact ⟨hc3, ht1.cell HN1.out q20, ht1.cell HN1.out q21, ht1.cell HN1.out q22, ht1.cell HN1.out q23, ht1.cell HN1.out q24, ht1.cell HN1.out q25, ht1.cell HN1.out q26, ht1.cell HN2.out e6f⟩ | go_keep)
        ((go_at_call 37; refine (HM2.out _ ?_).mono ?_; (focus repeat (first | assumption | exact ext_refl _ | refine ext_drew ?_ | refine ext_alloc ?_ _ | refine ext_trans ?_ (by assumption))); rintro e' w1 ⟨rfl, hc3, HK1, ht1⟩))
      all_goals (
        have ht2 : Turn [c, tb, sb] w w1 := (Turn.of_below hb2).trans ((Turn.refl _ _).drew.trans ht1)
        have HT2 := hid ht2
        clear ht1 ht2
        go_wp2_with fail
        go_ret
        exact Or.inr ⟨rfl, rfl, HK1.out, HT2.out⟩)
    | some s' =>
      have hl := hlen s' rfl
      have HM2 := hid fun W (hW : Below w.heap.size w W) => (HM.out W hW).mono (R' := fun e' w1 => e' = .returned (.bool true) ∧ (w1.cell? ⟨c, 3, none⟩ = some (.slice (some ⟨tb, 0, none⟩) s.ths.length s.ths.length)) ∧ Hid (CkAt w1 c tb sb s' ev) ∧ Turn [c, tb, sb] W w1) (fun e' w1 hh => ⟨hh.1, by rw [← hl]; exact (CkAt.cells hh.2.1).2.2.2.1, hid hh.2.1, hh.2.2⟩)
      clear HM hlen hl
      go_region_held3 (fun wq => wq.cell? ⟨c, 3, none⟩ = some (.slice (some ⟨tb, 0, none⟩) s.ths.length s.ths.length) ∧ wq.cell? ⟨w.heap.size, 0, none⟩ = some (.int .u8 6) ∧ wq.cell? ⟨w.heap.size, 1, none⟩ = some (.int .i64 (i : Int)) ∧ wq.cell? ⟨w.heap.size, 2, none⟩ = some (.int .i64 tx) ∧ wq.cell? ⟨w.heap.size, 3, none⟩ = some (.int .i64 at_) ∧ wq.cell? ⟨w.heap.size, 4, none⟩ = some (.int .i64 v) ∧ wq.cell? ⟨w.heap.size, 5, none⟩ = some (.int .i64 x) ∧ wq.cell? ⟨w.heap.size, 6, none⟩ = some (.int .u8 why) ∧ wq.cell? ⟨w'.heap.size, 6, none⟩ = some (.func (.func 37) #[] #[]))
        (first | exact ⟨hc3, ht1.cell HN1.out q20, ht1.cell HN1.out q21, ht1.cell HN1.out q22, ht1.cell HN1.out q23, ht1.cell HN1.out q24, ht1.cell HN1.out q25, ht1.cell HN1.out q26, ht1.cell HN2.out e6f⟩ | go_keep)
        ((go_at_call 37; refine (HM2.out _ ?_).mono ?_; (focus repeat (first | assumption | exact ext_refl _ | refine ext_drew ?_ | refine ext_alloc ?_ _ | refine ext_trans ?_ (by assumption))); rintro e' w1 ⟨rfl, hc3, HK1, ht1⟩))
      all_goals (
        have ht2 : Turn [c, tb, sb] w w1 := (Turn.of_below hb2).trans ((Turn.refl _ _).drew.trans ht1)
        have HT2 := hid ht2
        have h2 := (CkAt.cells HK1.out).2.2.1
        have f2 : w1.frozen? ⟨c, 2, none⟩ = false := HK1.out.ck.free 2
        clear ht1 ht2 q2 q3 hb2
        go_wp2_with fail
        go_ret
        exact Or.inl ⟨s', rfl, rfl, CkR.set_ev HK1.out _, HT2.out.setCell (Or.inl (by simp)) _⟩)

set_option maxRecDepth 100000 in
set_option maxHeartbeats 4000000 in
theorem next_7 (h : CkAt w c tb sb s ev) (hK : KindsAt w) (hev : ev < 1048576) (i : Nat) (hi : i < s.ths.length) (tx at_ v x why : Int) (he : EvOk ⟨7, i, tx, at_, v, x, why⟩) (hm : mayE ⟨7, i, tx, at_, v, x, why⟩ s.ths.length s.vars s.sts.length = true) (r : Option Sh) (hlen : ∀ s', r = some s' → s'.ths.length = s.ths.length)
    (HM : Hid (∀ W, Below w.heap.size w W → Calls Tryd.prog 38 #[.pointer (some ⟨c, 0, none⟩), .pointer (some ⟨tb, i * 13, none⟩), .agg #[.int .u8 7, .int .i64 (i : Int), .int .i64 tx, .int .i64 at_, .int .i64 v, .int .i64 x, .int .u8 why]] W (StepP W c tb sb s ev r))) :
    Calls Tryd.prog 23 #[.pointer (some ⟨c, 0, none⟩), .agg #[.int .u8 7, .int .i64 (i : Int), .int .i64 tx, .int .i64 at_, .int .i64 v, .int .i64 x, .int .u8 why]] w (NextP w c tb sb s ev r) := by
  obtain ⟨c0, c1, c2, c3, c4⟩ := h.cells
  have hcl := lt_of_cell c0
  have HH := hid h
  have hne := h.ne
  have htl := h.th.lt
  have hsl := h.st.lt
  have g1 : (ev : Int) < 1048576 := by omega
  have g2 : (0 : Int) ≤ (ev : Int) := by omega
  have g3 : decide ((1048576 : Int) ≤ (ev : Int)) = false := by rw [decide_eq_false_iff_not]; omega
  have g4 : (0 : Int) ≤ (i : Int) := by omega
  have g5 : (i : Int) < (s.ths.length : Int) := by omega
  have hmay := fun W (hW : Below w.heap.size w W) => may_any ⟨7, i, tx, at_, v, x, why⟩ s.ths.length s.vars s.sts.length W he (hK.below hW)
  rw [hm] at hmay
  dsimp only [evA] at hmay
  have HMAY := hid hmay
  clear hmay
  clear h hK he hm hev hi
  go_enter Tryd.func23, Tryd.ntmps23
  go_wp2_with fail
  have b0 := (Blk.new w #[.int .u8 7, .int .i64 (i : Int), .int .i64 tx, .int .i64 at_, .int .i64 v, .int .i64 x, .int .u8 why] 45)
  apply wp_region_vals' [.agg #[.int .u8 7, .int .i64 (i : Int), .int .i64 tx, .int .i64 at_, .int .i64 v, .int .i64 x, .int .u8 why], .pointer (some ⟨c, 0, none⟩), .pointer (some ⟨c, 0, none⟩), .pointer (some ⟨c, 3, none⟩), .slice (some ⟨tb, 0, none⟩) s.ths.length s.ths.length, .int .i64 (s.ths.length : Int), .pointer (some ⟨c, 0, none⟩), .pointer (some ⟨c, 0, none⟩), .pointer (some ⟨c, 0, none⟩), .int .i64 s.vars, .pointer (some ⟨c, 0, none⟩), .pointer (some ⟨c, 0, none⟩), .pointer (some ⟨c, 4, none⟩), .slice (some ⟨sb, 0, none⟩) s.sts.length s.sts.length, .int .i64 (s.sts.length : Int), .bool true, .bool false, .bool false] (fun w' => Below (w.alloc (.cells #[.int .u8 7, .int .i64 (i : Int), .int .i64 tx, .int .i64 at_, .int .i64 v, .int .i64 x, .int .u8 why] 45)).heap.size (w.alloc (.cells #[.int .u8 7, .int .i64 (i : Int), .int .i64 tx, .int .i64 at_, .int .i64 v, .int .i64 x, .int .u8 why] 45)) w')
  focus (simp [putAll, dstOf, Act.put, List.getD]; rfl)
  case hm => kernel_rfl
  case hd => kernel_rfl
  case hb => kernel_rfl
  case hdep => kernel_rfl
  case hsel => kernel_rfl
  case hsz => kernel_rfl
  case h0 => exact ext_drew (ext_refl _)
  case hstep =>
    repeat' (first | exact trivial | (refine And.intro ?_ ?_))
    all_goals (
      intro w' hG
      rw [if_pos (by kernel_rfl)]
      intro K Qp hK
      have d0 := later hG (cell_alloc c0)
      have d3 := later hG (cell_alloc c3)
      have d4 := later hG (cell_alloc c4)
      have d20 := later hG (b0.cell 0 rfl)
      have d21 := later hG (b0.cell 1 rfl)
      have d22 := later hG (b0.cell 2 rfl)
      have d23 := later hG (b0.cell 3 rfl)
      have d24 := later hG (b0.cell 4 rfl)
      have d25 := later hG (b0.cell 5 rfl)
      have d26 := later hG (b0.cell 6 rfl)
      have hb0 : Below w.heap.size w w' := ext_trans (ext_alloc (ext_refl _) _) hG
      have HB0 := hid hb0
      have HGG := hid hG
      clear hb0 hG c0 c1 c2 c3 c4 b0
      go_simp
      first
      | exact hK _ HGG.out
      | (go_wp2_with ((with_reducible refine (HMAY.out _ HB0.out).mono ?_); rintro e' w1 ⟨rfl, hb1⟩)
         first | (with_reducible exact HGG.out) | exact ext_trans HGG.out hb1 | exact hK _ HGG.out | exact hK _ (ext_trans HGG.out hb1)))
  case hdone =>
    intro w' hG
    have hb : Below w.heap.size w w' := ext_trans (ext_alloc (ext_refl _) _) hG
    have d2 := later hb c2
    have d3 := later hb c3
    have d20 := later hG (b0.cell 0 rfl)
    have d21 := later hG (b0.cell 1 rfl)
    have d22 := later hG (b0.cell 2 rfl)
    have d23 := later hG (b0.cell 3 rfl)
    have d24 := later hG (b0.cell 4 rfl)
    have d25 := later hG (b0.cell 5 rfl)
    have d26 := later hG (b0.cell 6 rfl)
    have z1 : w.heap.size < w'.heap.size := by have := hG.size; simp at this; omega
    have hc1 : c < w'.heap.size := by omega
    have ht1 : tb < w'.heap.size := by omega
    have hs1 : sb < w'.heap.size := by omega
    have HB := hid hb
    have HWZ := hid (show c ≠ w.heap.size ∧ tb ≠ w.heap.size ∧ sb ≠ w.heap.size by omega)
    clear hb hG c0 c1 c2 c3 c4 b0
    have bz := Blk.new w' #[.nilFunc, .nilFunc, .nilFunc, .nilFunc, .nilFunc, .nilFunc, .nilFunc, .nilFunc, .nilFunc, .nilFunc, .nilFunc, .nilFunc, .nilFunc, .nilFunc] 78
    have hth := there_blk (n := 14) bz rfl
    have hi1 : (Tryd.prog.info? 78).map (·.size) = some (#[.nilFunc, .func (.func 32) #[] #[], .func (.func 33) #[] #[], .func (.func 34) #[] #[], .func (.func 35) #[] #[], .func (.func 36) #[] #[], .func (.func 37) #[] #[], .func (.func 38) #[] #[], .func (.func 39) #[] #[], .func (.func 40) #[] #[], .func (.func 41) #[] #[], .func (.func 42) #[] #[], .func (.func 43) #[] #[], .func (.func 44) #[] #[]] : Array Value).size := by kernel_rfl
    have hi2 : (#[.nilFunc, .func (.func 32) #[] #[], .func (.func 33) #[] #[], .func (.func 34) #[] #[], .func (.func 35) #[] #[], .func (.func 36) #[] #[], .func (.func 37) #[] #[], .func (.func 38) #[] #[], .func (.func 39) #[] #[], .func (.func 40) #[] #[], .func (.func 41) #[] #[], .func (.func 42) #[] #[], .func (.func 43) #[] #[], .func (.func 44) #[] #[]] : Array Value).all (·.oneCell') = true := by kernel_rfl
    have HI1 := hid hi1
    have HI2 := hid hi2
    have HTH := hid hth
    clear hi1 hi2 hth
    go_wp2_with (refine wpList_store_mid rfl 78 (.tmp 5) (.tmp 33) rfl w'.heap.size 0 #[.nilFunc, .func (.func 32) #[] #[], .func (.func 33) #[] #[], .func (.func 34) #[] #[], .func (.func 35) #[] #[], .func (.func 36) #[] #[], .func (.func 37) #[] #[], .func (.func 38) #[] #[], .func (.func 39) #[] #[], .func (.func 40) #[] #[], .func (.func 41) #[] #[], .func (.func 42) #[] #[], .func (.func 43) #[] #[], .func (.func 44) #[] #[]] rfl rfl HTH.out HI1.out HI2.out ?_)
    have e7f := setCells_cell bz (#[.nilFunc, .func (.func 32) #[] #[], .func (.func 33) #[] #[], .func (.func 34) #[] #[], .func (.func 35) #[] #[], .func (.func 36) #[] #[], .func (.func 37) #[] #[], .func (.func 38) #[] #[], .func (.func 39) #[] #[], .func (.func 40) #[] #[], .func (.func 41) #[] #[], .func (.func 42) #[] #[], .func (.func 43) #[] #[], .func (.func 44) #[] #[]] : Array Value).toList rfl 7 (v := .func (.func 38) #[] #[]) rfl
    have hbz : Below w'.heap.size w' ((w'.alloc (.cells #[.nilFunc, .nilFunc, .nilFunc, .nilFunc, .nilFunc, .nilFunc, .nilFunc, .nilFunc, .nilFunc, .nilFunc, .nilFunc, .nilFunc, .nilFunc, .nilFunc] 78)).setCells w'.heap.size 0 (#[.nilFunc, .func (.func 32) #[] #[], .func (.func 33) #[] #[], .func (.func 34) #[] #[], .func (.func 35) #[] #[], .func (.func 36) #[] #[], .func (.func 37) #[] #[], .func (.func 38) #[] #[], .func (.func 39) #[] #[], .func (.func 40) #[] #[], .func (.func 41) #[] #[], .func (.func 42) #[] #[], .func (.func 43) #[] #[], .func (.func 44) #[] #[]] : Array Value).toList) := (ext_alloc (ext_refl w') _).trans (setCells_below (B := w'.heap.size) (Nat.le_refl _) _ 0 _)
    generalize hW : (w'.alloc (.cells #[.nilFunc, .nilFunc, .nilFunc, .nilFunc, .nilFunc, .nilFunc, .nilFunc, .nilFunc, .nilFunc, .nilFunc, .nilFunc, .nilFunc, .nilFunc, .nilFunc] 78)).setCells w'.heap.size 0 (#[.nilFunc, .func (.func 32) #[] #[], .func (.func 33) #[] #[], .func (.func 34) #[] #[], .func (.func 35) #[] #[], .func (.func 36) #[] #[], .func (.func 37) #[] #[], .func (.func 38) #[] #[], .func (.func 39) #[] #[], .func (.func 40) #[] #[], .func (.func 41) #[] #[], .func (.func 42) #[] #[], .func (.func 43) #[] #[], .func (.func 44) #[] #[]] : Array Value).toList = W2 at *
    have HBZ := hid hbz
    have q2 := later hbz d2
    have q3 := later hbz d3
    have q20 := later hbz d20
    have q21 := later hbz d21
    have q22 := later hbz d22
    have q23 := later hbz d23
    have q24 := later hbz d24
    have q25 := later hbz d25
    have q26 := later hbz d26
    have z2 := hbz.size
    have hc2 : c < W2.heap.size := by omega
    have ht2 : tb < W2.heap.size := by omega
    have hs2 : sb < W2.heap.size := by omega
    have HZZ := hid (show c ≠ w'.heap.size ∧ tb ≠ w'.heap.size ∧ sb ≠ w'.heap.size by omega)
    clear hW hbz bz d2 d3 d20 d21 d22 d23 d24 d25 d26
    have hb2 : Below w.heap.size w W2 := ext_trans HB.out HBZ.out
    have HN1 := hid (show w.heap.size ∉ [c, tb, sb] by have := HWZ.out; simp; omega)
    have HN2 := hid (show w'.heap.size ∉ [c, tb, sb] by have := HZZ.out; simp; omega)
    cases r with
    | none =>
      have HM2 := hid fun W (hW : Below w.heap.size w W) => (HM.out W hW).mono (R' := fun e' w1 => e' = .returned (.bool false) ∧ (w1.cell? ⟨c, 3, none⟩ = some (.slice (some ⟨tb, 0, none⟩) s.ths.length s.ths.length)) ∧ Hid (CkAt w1 c tb sb s ev) ∧ Turn [c, tb, sb] W w1) (fun e' w1 hh => ⟨hh.1, (CkAt.cells hh.2.1).2.2.2.1, hid hh.2.1, hh.2.2⟩)
      clear HM hlen
      go_region_held3 (fun wq => wq.cell? ⟨c, 3, none⟩ = some (.slice (some ⟨tb, 0, none⟩) s.ths.length s.ths.length) ∧ wq.cell? ⟨w.heap.size, 0, none⟩ = some (.int .u8 7) ∧ wq.cell? ⟨w.heap.size, 1, none⟩ = some (.int .i64 (i : Int)) ∧ wq.cell? ⟨w.heap.size, 2, none⟩ = some (.int .i64 tx) ∧ wq.cell? ⟨w.heap.size, 3, none⟩ = some (.int .i64 at_) ∧ wq.cell? ⟨w.heap.size, 4, none⟩ = some (.int .i64 v) ∧ wq.cell? ⟨w.heap.size, 5, none⟩ = some (.int .i64 x) ∧ wq.cell? ⟨w.heap.size, 6, none⟩ = some (.int .u8 why) ∧ wq.cell? ⟨w'.heap.size, 7, none⟩ = some (.func (.func 38) #[] #[]))
        (first | exact ⟨hc3, ht1.cell HN1.out q20, ht1.cell HN1.out q21, ht1.cell HN1.out q22, ht1.cell HN1.out q23, ht1.cell HN1.out q24, ht1.cell HN1.out q25, ht1.cell HN1.out q26, ht1.cell HN2.out e7f⟩ | go_keep)
        ((go_at_call 38; refine (HM2.out _ ?_).mono ?_; (focus repeat (first | assumption | exact ext_refl _ | refine ext_drew ?_ | refine ext_alloc ?_ _ | refine ext_trans ?_ (by assumption))); rintro e' w1 ⟨rfl, hc3, HK1, ht1⟩))
      all_goals (
        have ht2 : Turn [c, tb, sb] w w1 := (Turn.of_below hb2).trans ((Turn.refl _ _).drew.trans ht1)
        have HT2 := hid ht2
        clear ht1 ht2
        go_wp2_with fail
        go_ret
        exact Or.inr ⟨rfl, rfl, HK1.out, HT2.out⟩)
    | some s' =>
      have hl := hlen s' rfl
      have HM2 := hid fun W (hW : Below w.heap.size w W) => (HM.out W hW).mono (R' := fun e' w1 => e' = .returned (.bool true) ∧ (w1.cell? ⟨c, 3, none⟩ = some (.slice (some ⟨tb, 0, none⟩) s.ths.length s.ths.length)) ∧ Hid (CkAt w1 c tb sb s' ev) ∧ Turn [c, tb, sb] W w1) (fun e' w1 hh => ⟨hh.1, by rw [← hl]; exact (CkAt.cells hh.2.1).2.2.2.1, hid hh.2.1, hh.2.2⟩)
      clear HM hlen hl
      go_region_held3 (fun wq => wq.cell? ⟨c, 3, none⟩ = some (.slice (some ⟨tb, 0, none⟩) s.ths.length s.ths.length) ∧ wq.cell? ⟨w.heap.size, 0, none⟩ = some (.int .u8 7) ∧ wq.cell? ⟨w.heap.size, 1, none⟩ = some (.int .i64 (i : Int)) ∧ wq.cell? ⟨w.heap.size, 2, none⟩ = some (.int .i64 tx) ∧ wq.cell? ⟨w.heap.size, 3, none⟩ = some (.int .i64 at_) ∧ wq.cell? ⟨w.heap.size, 4, none⟩ = some (.int .i64 v) ∧ wq.cell? ⟨w.heap.size, 5, none⟩ = some (.int .i64 x) ∧ wq.cell? ⟨w.heap.size, 6, none⟩ = some (.int .u8 why) ∧ wq.cell? ⟨w'.heap.size, 7, none⟩ = some (.func (.func 38) #[] #[]))
        (first | exact ⟨hc3, ht1.cell HN1.out q20, ht1.cell HN1.out q21, ht1.cell HN1.out q22, ht1.cell HN1.out q23, ht1.cell HN1.out q24, ht1.cell HN1.out q25, ht1.cell HN1.out q26, ht1.cell HN2.out e7f⟩ | go_keep)
        ((go_at_call 38; refine (HM2.out _ ?_).mono ?_; (focus repeat (first | assumption | exact ext_refl _ | refine ext_drew ?_ | refine ext_alloc ?_ _ | refine ext_trans ?_ (by assumption))); rintro e' w1 ⟨rfl, hc3, HK1, ht1⟩))
      all_goals (
        have ht2 : Turn [c, tb, sb] w w1 := (Turn.of_below hb2).trans ((Turn.refl _ _).drew.trans ht1)
        have HT2 := hid ht2
        have h2 := (CkAt.cells HK1.out).2.2.1
        have f2 : w1.frozen? ⟨c, 2, none⟩ = false := HK1.out.ck.free 2
        clear ht1 ht2 q2 q3 hb2
        go_wp2_with fail
        go_ret
        exact Or.inl ⟨s', rfl, rfl, CkR.set_ev HK1.out _, HT2.out.setCell (Or.inl (by simp)) _⟩)

set_option maxRecDepth 100000 in
set_option maxHeartbeats 4000000 in
theorem next_8 (h : CkAt w c tb sb s ev) (hK : KindsAt w) (hev : ev < 1048576) (i : Nat) (hi : i < s.ths.length) (tx at_ v x why : Int) (he : EvOk ⟨8, i, tx, at_, v, x, why⟩) (hm : mayE ⟨8, i, tx, at_, v, x, why⟩ s.ths.length s.vars s.sts.length = true) (r : Option Sh) (hlen : ∀ s', r = some s' → s'.ths.length = s.ths.length)
    (HM : Hid (∀ W, Below w.heap.size w W → Calls Tryd.prog 39 #[.pointer (some ⟨c, 0, none⟩), .pointer (some ⟨tb, i * 13, none⟩), .agg #[.int .u8 8, .int .i64 (i : Int), .int .i64 tx, .int .i64 at_, .int .i64 v, .int .i64 x, .int .u8 why]] W (StepP W c tb sb s ev r))) :
    Calls Tryd.prog 23 #[.pointer (some ⟨c, 0, none⟩), .agg #[.int .u8 8, .int .i64 (i : Int), .int .i64 tx, .int .i64 at_, .int .i64 v, .int .i64 x, .int .u8 why]] w (NextP w c tb sb s ev r) := by
  obtain ⟨c0, c1, c2, c3, c4⟩ := h.cells
  have hcl := lt_of_cell c0
  have HH := hid h
  have hne := h.ne
  have htl := h.th.lt
  have hsl := h.st.lt
  have g1 : (ev : Int) < 1048576 := by omega
  have g2 : (0 : Int) ≤ (ev : Int) := by omega
  have g3 : decide ((1048576 : Int) ≤ (ev : Int)) = false := by rw [decide_eq_false_iff_not]; omega
  have g4 : (0 : Int) ≤ (i : Int) := by omega
  have g5 : (i : Int) < (s.ths.length : Int) := by omega
  have hmay := fun W (hW : Below w.heap.size w W) => may_any ⟨8, i, tx, at_, v, x, why⟩ s.ths.length s.vars s.sts.length W he (hK.below hW)
  rw [hm] at hmay
  dsimp only [evA] at hmay
  have HMAY := hid hmay
  clear hmay
  clear h hK he hm hev hi
  go_enter Tryd.func23, Tryd.ntmps23
  go_wp2_with fail
  have b0 := (Blk.new w #[.int .u8 8, .int .i64 (i : Int), .int .i64 tx, .int .i64 at_, .int .i64 v, .int .i64 x, .int .u8 why] 45)
  apply wp_region_vals' [.agg #[.int .u8 8, .int .i64 (i : Int), .int .i64 tx, .int .i64 at_, .int .i64 v, .int .i64 x, .int .u8 why], .pointer (some ⟨c, 0, none⟩), .pointer (some ⟨c, 0, none⟩), .pointer (some ⟨c, 3, none⟩), .slice (some ⟨tb, 0, none⟩) s.ths.length s.ths.length, .int .i64 (s.ths.length : Int), .pointer (some ⟨c, 0, none⟩), .pointer (some ⟨c, 0, none⟩), .pointer (some ⟨c, 0, none⟩), .int .i64 s.vars, .pointer (some ⟨c, 0, none⟩), .pointer (some ⟨c, 0, none⟩), .pointer (some ⟨c, 4, none⟩), .slice (some ⟨sb, 0, none⟩) s.sts.length s.sts.length, .int .i64 (s.sts.length : Int), .bool true, .bool false, .bool false] (fun w' => Below (w.alloc (.cells #[.int .u8 8, .int .i64 (i : Int), .int .i64 tx, .int .i64 at_, .int .i64 v, .int .i64 x, .int .u8 why] 45)).heap.size (w.alloc (.cells #[.int .u8 8, .int .i64 (i : Int), .int .i64 tx, .int .i64 at_, .int .i64 v, .int .i64 x, .int .u8 why] 45)) w')
  focus (simp [putAll, dstOf, Act.put, List.getD]; rfl)
  case hm => kernel_rfl
  case hd => kernel_rfl
  case hb => kernel_rfl
  case hdep => kernel_rfl
  case hsel => kernel_rfl
  case hsz => kernel_rfl
  case h0 => exact ext_drew (ext_refl _)
  case hstep =>
    repeat' (first | exact trivial | (refine And.intro ?_ ?_))
    all_goals (
      intro w' hG
      rw [if_pos (by kernel_rfl)]
      intro K Qp hK
      have d0 := later hG (cell_alloc c0)
      have d3 := later hG (cell_alloc c3)
      have d4 := later hG (cell_alloc c4)
      have d20 := later hG (b0.cell 0 rfl)
      have d21 := later hG (b0.cell 1 rfl)
      have d22 := later hG (b0.cell 2 rfl)
      have d23 := later hG (b0.cell 3 rfl)
      have d24 := later hG (b0.cell 4 rfl)
      have d25 := later hG (b0.cell 5 rfl)
      have d26 := later hG (b0.cell 6 rfl)
      have hb0 : Below w.heap.size w w' := ext_trans (ext_alloc (ext_refl _) _) hG
      have HB0 := hid hb0
      have HGG := hid hG
      clear hb0 hG c0 c1 c2 c3 c4 b0
      go_simp
      first
      | exact hK _ HGG.out
      | (go_wp2_with ((with_reducible refine (HMAY.out _ HB0.out).mono ?_); rintro e' w1 ⟨rfl, hb1⟩)
         first | (with_reducible exact HGG.out) | exact ext_trans HGG.out hb1 | exact hK _ HGG.out | exact hK _ (ext_trans HGG.out hb1)))
  case hdone =>
    intro w' hG
    have hb : Below w.heap.size w w' := ext_trans (ext_alloc (ext_refl _) _) hG
    have d2 := later hb c2
    have d3 := later hb c3
    have d20 := later hG (b0.cell 0 rfl)
    have d21 := later hG (b0.cell 1 rfl)
    have d22 := later hG (b0.cell 2 rfl)
    have d23 := later hG (b0.cell 3 rfl)
    have d24 := later hG (b0.cell 4 rfl)
    have d25 := later hG (b0.cell 5 rfl)
    have d26 := later hG (b0.cell 6 rfl)
    have z1 : w.heap.size < w'.heap.size := by have := hG.size; simp at this; omega
    have hc1 : c < w'.heap.size := by omega
    have ht1 : tb < w'.heap.size := by omega
    have hs1 : sb < w'.heap.size := by omega
    have HB := hid hb
    have HWZ := hid (show c ≠ w.heap.size ∧ tb ≠ w.heap.size ∧ sb ≠ w.heap.size by omega)
    clear hb hG c0 c1 c2 c3 c4 b0
    have bz := Blk.new w' #[.nilFunc, .nilFunc, .nilFunc, .nilFunc, .nilFunc, .nilFunc, .nilFunc, .nilFunc, .nilFunc, .nilFunc, .nilFunc, .nilFunc, .nilFunc, .nilFunc] 78
    have hth := there_blk (n := 14) bz rfl
    have hi1 : (Tryd.prog.info? 78).map (·.size) = some (#[.nilFunc, .func (.func 32) #[] #[], .func (.func 33) #[] #[], .func (.func 34) #[] #[], .func (.func 35) #[] #[], .func (.func 36) #[] #[], .func (.func 37) #[] #[], .func (.func 38) #[] #[], .func (.func 39) #[] #[], .func (.func 40) #[] #[], .func (.func 41) #[] #[], .func (.func 42) #[] #[], .func (.func 43) #[] #[], .func (.func 44) #[] #[]] : Array Value).size := by kernel_rfl
    have hi2 : (#[.nilFunc, .func (.func 32) #[] #[], .func (.func 33) #[] #[], .func (.func 34) #[] #[], .func (.func 35) #[] #[], .func (.func 36) #[] #[], .func (.func 37) #[] #[], .func (.func 38) #[] #[], .func (.func 39) #[] #[], .func (.func 40) #[] #[], .func (.func 41) #[] #[], .func (.func 42) #[] #[], .func (.func 43) #[] #[], .func (.func 44) #[] #[]] : Array Value).all (·.oneCell') = true := by kernel_rfl
    have HI1 := hid hi1
    have HI2 := hid hi2
    have HTH := hid hth
    clear hi1 hi2 hth
    go_wp2_with (refine wpList_store_mid rfl 78 (.tmp 5) (.tmp 33) rfl w'.heap.size 0 #[.nilFunc, .func (.func 32) #[] #[], .func (.func 33) #[] #[], .func (.func 34) #[] #[], .func (.func 35) #[] #[], .func (.func 36) #[] #[], .func (.func 37) #[] #[], .func (.func 38) #[] #[], .func (.func 39) #[] #[], .func (.func 40) #[] #[], .func (.func 41) #[] #[], .func (.func 42) #[] #[], .func (.func 43) #[] #[], .func (.func 44) #[] #[]] rfl rfl HTH.out HI1.out HI2.out ?_)
    have e8f := setCells_cell bz (#[.nilFunc, .func (.func 32) #[] #[], .func (.func 33) #[] #[], .func (.func 34) #[] #[], .func (.func 35) #[] #[], .func (.func 36) #[] #[], .func (.func 37) #[] #[], .func (.func 38) #[] #[], .func (.func 39) #[] #[], .func (.func 40) #[] #[], .func (.func 41) #[] #[], .func (.func 42) #[] #[], .func (.func 43) #[] #[], .func (.func 44) #[] #[]] : Array Value).toList rfl 8 (v := .func (.func 39) #[] #[]) rfl
    have hbz : Below w'.heap.size w' ((w'.alloc (.cells #[.nilFunc, .nilFunc, .nilFunc, .nilFunc, .nilFunc, .nilFunc, .nilFunc, .nilFunc, .nilFunc, .nilFunc, .nilFunc, .nilFunc, .nilFunc, .nilFunc] 78)).setCells w'.heap.size 0 (#[.nilFunc, .func (.func 32) #[] #[], .func (.func 33) #[] #[], .func (.func 34) #[] #[], .func (.func 35) #[] #[], .func (.func 36) #[] #[], .func (.func 37) #[] #[], .func (.func 38) #[] #[], .func (.func 39) #[] #[], .func (.func 40) #[] #[], .func (.func 41) #[] #[], .func (.func 42) #[] #[], .func (.func 43) #[] #[], .func (.func 44) #[] #[]] : Array Value).toList) := (ext_alloc (ext_refl w') _).trans (setCells_below (B := w'.heap.size) (Nat.le_refl _) _ 0 _)
    generalize hW : (w'.alloc (.cells #[.nilFunc, .nilFunc, .nilFunc, .nilFunc, .nilFunc, .nilFunc, .nilFunc, .nilFunc, .nilFunc, .nilFunc, .nilFunc, .nilFunc, .nilFunc, .nilFunc] 78)).setCells w'.heap.size 0 (#[.nilFunc, .func (.func 32) #[] #[], .func (.func 33) #[] #[], .func (.func 34) #[] #[], .func (.func 35) #[] #[], .func (.func 36) #[] #[], .func (.func 37) #[] #[], .func (.func 38) #[] #[], .func (.func 39) #[] #[], .func (.func 40) #[] #[], .func (.func 41) #[] #[], .func (.func 42) #[] #[], .func (.func 43) #[] #[], .func (.func 44) #[] #[]] : Array Value).toList = W2 at *
    have HBZ := hid hbz
    have q2 := later hbz d2
    have q3 := later hbz d3
    have q20 := later hbz d20
    have q21 := later hbz d21
    have q22 := later hbz d22
    have q23 := later hbz d23
    have q24 := later hbz d24
    have q25 := later hbz d25
    have q26 := later hbz d26
    have z2 := hbz.size
    have hc2 : c < W2.heap.size := by omega
    have ht2 : tb < W2.heap.size := by omega
    have hs2 : sb < W2.heap.size := by omega
    have HZZ := hid (show c ≠ w'.heap.size ∧ tb ≠ w'.heap.size ∧ sb ≠ w'.heap.size by omega)
    clear hW hbz bz d2 d3 d20 d21 d22 d23 d24 d25 d26
    have hb2 : Below w.heap.size w W2 := ext_trans HB.out HBZ.out
    have HN1 := hid (show w.heap.size ∉ [c, tb, sb] by have := HWZ.out; simp; omega)
    have HN2 := hid (show w'.heap.size ∉ [c, tb, sb] by have := HZZ.out; simp; omega)
    cases r with
    | none =>
      have HM2 := hid fun W (hW : Below w.heap.size w W) => (HM.out W hW).mono (R' := fun e' w1 => e' = .returned (.bool false) ∧ (w1.cell? ⟨c, 3, none⟩ = some (.slice (some ⟨tb, 0, none⟩) s.ths.length s.ths.length)) ∧ Hid (CkAt w1 c tb sb s ev) ∧ Turn [c, tb, sb] W w1) (fun e' w1 hh => ⟨hh.1, (CkAt.cells hh.2.1).2.2.2.1, hid hh.2.1, hh.2.2⟩)
      clear HM hlen
      go_region_held3 (fun wq => wq.cell? ⟨c, 3, none⟩ = some (.slice (some ⟨tb, 0, none⟩) s.ths.length s.ths.length) ∧ wq.cell? ⟨w.heap.size, 0, none⟩ = some (.int .u8 8) ∧ wq.cell? ⟨w.heap.size, 1, none⟩ = some (.int .i64 (i : Int)) ∧ wq.cell? ⟨w.heap.size, 2, none⟩ = some (.int .i64 tx) ∧ wq.cell? ⟨w.heap.size, 3, none⟩ = some (.int .i64 at_) ∧ wq.cell? ⟨w.heap.size, 4, none⟩ = some (.int .i64 v) ∧ wq.cell? ⟨w.heap.size, 5, none⟩ = some (.int .i64 x) ∧ wq.cell? ⟨w.heap.size, 6, none⟩ = some (.int .u8 why) ∧ wq.cell? ⟨w'.heap.size, 8, none⟩ = some (.func (.func 39) #[] #[]))
        (first | exact ⟨hc3, ht1.cell HN1.out q20, ht1.cell HN1.out q21, ht1.cell HN1.out q22, ht1.cell HN1.out q23, ht1.cell HN1.out q24, ht1.cell HN1.out q25, ht1.cell HN1.out q26, ht1.cell HN2.out e8f⟩ | go_keep)
        ((go_at_call 39; refine (HM2.out _ ?_).mono ?_; (focus repeat (first | assumption | exact ext_refl _ | refine ext_drew ?_ | refine ext_alloc ?_ _ | refine ext_trans ?_ (by assumption))); rintro e' w1 ⟨rfl, hc3, HK1, ht1⟩))
      all_goals (
        have ht2 : Turn [c, tb, sb] w w1 := (Turn.of_below hb2).trans ((Turn.refl _ _).drew.trans ht1)
        have HT2 := hid ht2
        clear ht1 ht2
        go_wp2_with fail
        go_ret
        exact Or.inr ⟨rfl, rfl, HK1.out, HT2.out⟩)
    | some s' =>
      have hl := hlen s' rfl
      have HM2 := hid fun W (hW : Below w.heap.size w W) => (HM.out W hW).mono (R' := fun e' w1 => e' = .returned (.bool true) ∧ (w1.cell? ⟨c, 3, none⟩ = some (.slice (some ⟨tb, 0, none⟩) s.ths.length s.ths.length)) ∧ Hid (CkAt w1 c tb sb s' ev) ∧ Turn [c, tb, sb] W w1) (fun e' w1 hh => ⟨hh.1, by rw [← hl]; exact (CkAt.cells hh.2.1).2.2.2.1, hid hh.2.1, hh.2.2⟩)
      clear HM hlen hl
      go_region_held3 (fun wq => wq.cell? ⟨c, 3, none⟩ = some (.slice (some ⟨tb, 0, none⟩) s.ths.length s.ths.length) ∧ wq.cell? ⟨w.heap.size, 0, none⟩ = some (.int .u8 8) ∧ wq.cell? ⟨w.heap.size, 1, none⟩ = some (.int .i64 (i : Int)) ∧ wq.cell? ⟨w.heap.size, 2, none⟩ = some (.int .i64 tx) ∧ wq.cell? ⟨w.heap.size, 3, none⟩ = some (.int .i64 at_) ∧ wq.cell? ⟨w.heap.size, 4, none⟩ = some (.int .i64 v) ∧ wq.cell? ⟨w.heap.size, 5, none⟩ = some (.int .i64 x) ∧ wq.cell? ⟨w.heap.size, 6, none⟩ = some (.int .u8 why) ∧ wq.cell? ⟨w'.heap.size, 8, none⟩ = some (.func (.func 39) #[] #[]))
        (first | exact ⟨hc3, ht1.cell HN1.out q20, ht1.cell HN1.out q21, ht1.cell HN1.out q22, ht1.cell HN1.out q23, ht1.cell HN1.out q24, ht1.cell HN1.out q25, ht1.cell HN1.out q26, ht1.cell HN2.out e8f⟩ | go_keep)
        ((go_at_call 39; refine (HM2.out _ ?_).mono ?_; (focus repeat (first | assumption | exact ext_refl _ | refine ext_drew ?_ | refine ext_alloc ?_ _ | refine ext_trans ?_ (by assumption))); rintro e' w1 ⟨rfl, hc3, HK1, ht1⟩))
      all_goals (
        have ht2 : Turn [c, tb, sb] w w1 := (Turn.of_below hb2).trans ((Turn.refl _ _).drew.trans ht1)
        have HT2 := hid ht2
        have h2 := (CkAt.cells HK1.out).2.2.1
        have f2 : w1.frozen? ⟨c, 2, none⟩ = false := HK1.out.ck.free 2
        clear ht1 ht2 q2 q3 hb2
        go_wp2_with fail
        go_ret
        exact Or.inl ⟨s', rfl, rfl, CkR.set_ev HK1.out _, HT2.out.setCell (Or.inl (by simp)) _⟩)
end
end Go.Proofs.YtjckgagkkknmnaaDoor
/-
  The checker; walks: Next, Kind by Kind (9 to 13).
-/
namespace Go.Proofs.YtjckgagkkknmnaaDoor
set_option linter.unusedVariables false
set_option linter.unusedSimpArgs false
open Go Go.RowKit
section
variable {w : World} {c tb sb : Nat} {s : Sh} {ev : Nat}

set_option maxRecDepth 100000 in
set_option maxHeartbeats 4000000 in
theorem next_9 (h : CkAt w c tb sb s ev) (hK : KindsAt w) (hev : ev < 1048576) (i : Nat) (hi : i < s.ths.length) (tx at_ v x why : Int) (he : EvOk ⟨9, i, tx, at_, v, x, why⟩) (hm : mayE ⟨9, i, tx, at_, v, x, why⟩ s.ths.length s.vars s.sts.length = true) (r : Option Sh) (hlen : ∀ s', r = some s' → s'.ths.length = s.ths.length)
    (HM : Hid (∀ W, Below w.heap.size w W → Calls Tryd.prog 40 #[.pointer (some ⟨c, 0, none⟩), .pointer (some ⟨tb, i * 13, none⟩), .agg #[.int .u8 9, .int .i64 (i : Int), .int .i64 tx, .int .i64 at_, .int .i64 v, .int .i64 x, .int .u8 why]] W (StepP W c tb sb s ev r))) :
    Calls Tryd.prog 23 #[.pointer (some ⟨c, 0, none⟩), .agg #[.int .u8 9, .int .i64 (i : Int), .int .i64 tx, .int .i64 at_, .int .i64 v, .int .i64 x, .int .u8 why]] w (NextP w c tb sb s ev r) := by
  obtain ⟨c0, c1, c2, c3, c4⟩ := h.cells
  have hcl := lt_of_cell c0
  have HH := hid h
  have hne := h.ne
  have htl := h.th.lt
  have hsl := h.st.lt
  have g1 : (ev : Int) < 1048576 := by omega
  have g2 : (0 : Int) ≤ (ev : Int) := by omega
  have g3 : decide ((1048576 : Int) ≤ (ev : Int)) = false := by rw [decide_eq_false_iff_not]; omega
  have g4 : (0 : Int) ≤ (i : Int) := by omega
  have g5 : (i : Int) < (s.ths.length : Int) := by omega
  have hmay := fun W (hW : Below w.heap.size w W) => may_any ⟨9, i, tx, at_, v, x, why⟩ s.ths.length s.vars s.sts.length W he (hK.below hW)
  rw [hm] at hmay
  dsimp only [evA] at hmay
  have HMAY := hid hmay
  clear hmay
  clear h hK he hm hev hi
  go_enter Tryd.func23, Tryd.ntmps23
  go_wp2_with fail
  have b0 := (Blk.new w #[.int .u8 9, .int .i64 (i : Int), .int .i64 tx, .int .i64 at_, .int .i64 v, .int .i64 x, .int .u8 why] 45)
  apply wp_region_vals' [.agg #[.int .u8 9, .int .i64 (i : Int), .int .i64 tx, .int .i64 at_, .int .i64 v, .int .i64 x, .int .u8 why], .pointer (some ⟨c, 0, none⟩), .pointer (some ⟨c, 0, none⟩), .pointer (some ⟨c, 3, none⟩), .slice (some ⟨tb, 0, none⟩) s.ths.length s.ths.length, .int .i64 (s.ths.length : Int), .pointer (some ⟨c, 0, none⟩), .pointer (some ⟨c, 0, none⟩), .pointer (some ⟨c, 0, none⟩), .int .i64 s.vars, .pointer (some ⟨c, 0, none⟩), .pointer (some ⟨c, 0, none⟩), .pointer (some ⟨c, 4, none⟩), .slice (some ⟨sb, 0, none⟩) s.sts.length s.sts.length, .int .i64 (s.sts.length : Int), .bool true, .bool false, .bool false] (fun w' => Below (w.alloc (.cells #[.int .u8 9, .int .i64 (i : Int), .int .i64 tx, .int .i64 at_, .int .i64 v, .int .i64 x, .int .u8 why] 45)).heap.size (w.alloc (.cells #[.int .u8 9, .int .i64 (i : Int), .int .i64 tx, .int .i64 at_, .int .i64 v, .int .i64 x, .int .u8 why] 45)) w')
  focus (simp [putAll, dstOf, Act.put, List.getD]; rfl)
  case hm => kernel_rfl
  case hd => kernel_rfl
  case hb => kernel_rfl
  case hdep => kernel_rfl
  case hsel => kernel_rfl
  case hsz => kernel_rfl
  case h0 => exact ext_drew (ext_refl _)
  case hstep =>
    repeat' (first | exact trivial | (refine And.intro ?_ ?_))
    all_goals (
      intro w' hG
      rw [if_pos (by kernel_rfl)]
      intro K Qp hK
      have d0 := later hG (cell_alloc c0)
      have d3 := later hG (cell_alloc c3)
      have d4 := later hG (cell_alloc c4)
      have d20 := later hG (b0.cell 0 rfl)
      have d21 := later hG (b0.cell 1 rfl)
      have d22 := later hG (b0.cell 2 rfl)
      have d23 := later hG (b0.cell 3 rfl)
      have d24 := later hG (b0.cell 4 rfl)
      have d25 := later hG (b0.cell 5 rfl)
      have d26 := later hG (b0.cell 6 rfl)
      have hb0 : Below w.heap.size w w' := ext_trans (ext_alloc (ext_refl _) _) hG
      have HB0 := hid hb0
      have HGG := hid hG
      clear hb0 hG c0 c1 c2 c3 c4 b0
      go_simp
      first
      | exact hK _ HGG.out
      | (go_wp2_with ((with_reducible refine (HMAY.out _ HB0.out).mono ?_); rintro e' w1 ⟨rfl, hb1⟩)
         first | (with_reducible exact HGG.out) | exact ext_trans HGG.out hb1 | exact hK _ HGG.out | exact hK _ (ext_trans HGG.out hb1)))
  case hdone =>
    intro w' hG
    have hb : Below w.heap.size w w' := ext_trans (ext_alloc (ext_refl _) _) hG
    have d2 := later hb c2
    have d3 := later hb c3
    have d20 := later hG (b0.cell 0 rfl)
    have d21 := later hG (b0.cell 1 rfl)
    have d22 := later hG (b0.cell 2 rfl)
    have d23 := later hG (b0.cell 3 rfl)
    have d24 := later hG (b0.cell 4 rfl)
    have d25 := later hG (b0.cell 5 rfl)
    have d26 := later hG (b0.cell 6 rfl)
    have z1 : w.heap.size < w'.heap.size := by have := hG.size; simp at this; omega
    have hc1 : c < w'.heap.size := by omega
    have ht1 : tb < w'.heap.size := by omega
    have hs1 : sb < w'.heap.size := by omega
    have HB := hid hb
    have HWZ := hid (show c ≠ w.heap.size ∧ tb ≠ w.heap.size ∧ sb ≠ w.heap.size by omega)
    clear hb hG c0 c1 c2 c3 c4 b0
    have bz := Blk.new w' #[.nilFunc, .nilFunc, .nilFunc, .nilFunc, .nilFunc, .nilFunc, .nilFunc, .nilFunc, .nilFunc, .nilFunc, .nilFunc, .nilFunc, .nilFunc, .nilFunc] 78
    have hth := there_blk (n := 14) bz rfl
    have hi1 : (Tryd.prog.info? 78).map (·.size) = some (#[.nilFunc, .func (.func 32) #[] #[], .func (.func 33) #[] #[], .func (.func 34) #[] #[], .func (.func 35) #[] #[], .func (.func 36) #[] #[], .func (.func 37) #[] #[], .func (.func 38) #[] #[], .func (.func 39) #[] #[], .func (.func 40) #[] #[], .func (.func 41) #[] #[], .func (.func 42) #[] #[], .func (.func 43) #[] #[], .func (.func 44) #[] #[]] : Array Value).size := by kernel_rfl
    have hi2 : (#[.nilFunc, .func (.func 32) #[] #[], .func (.func 33) #[] #[], .func (.func 34) #[] #[], .func (.func 35) #[] #[], .func (.func 36) #[] #[], .func (.func 37) #[] #[], .func (.func 38) #[] #[], .func (.func 39) #[] #[], .func (.func 40) #[] #[], .func (.func 41) #[] #[], .func (.func 42) #[] #[], .func (.func 43) #[] #[], .func (.func 44) #[] #[]] : Array Value).all (·.oneCell') = true := by kernel_rfl
    have HI1 := hid hi1
    have HI2 := hid hi2
    have HTH := hid hth
    clear hi1 hi2 hth
    go_wp2_with (refine wpList_store_mid rfl 78 (.tmp 5) (.tmp 33) rfl w'.heap.size 0 #[.nilFunc, .func (.func 32) #[] #[], .func (.func 33) #[] #[], .func (.func 34) #[] #[], .func (.func 35) #[] #[], .func (.func 36) #[] #[], .func (.func 37) #[] #[], .func (.func 38) #[] #[], .func (.func 39) #[] #[], .func (.func 40) #[] #[], .func (.func 41) #[] #[], .func (.func 42) #[] #[], .func (.func 43) #[] #[], .func (.func 44) #[] #[]] rfl rfl HTH.out HI1.out HI2.out ?_)
    have e9f := setCells_cell bz (#[.nilFunc, .func (.func 32) #[] #[], .func (.func 33) #[] #[], .func (.func 34) #[] #[], .func (.func 35) #[] #[], .func (.func 36) #[] #[], .func (.func 37) #[] #[], .func (.func 38) #[] #[], .func (.func 39) #[] #[], .func (.func 40) #[] #[], .func (.func 41) #[] #[], .func (.func 42) #[] #[], .func (.func 43) #[] #[], .func (.func 44) #[] #[]] : Array Value).toList rfl 9 (v := .func (.func 40) #[] #[]) rfl
    have hbz : Below w'.heap.size w' ((w'.alloc (.cells #[.nilFunc, .nilFunc, .nilFunc, .nilFunc, .nilFunc, .nilFunc, .nilFunc, .nilFunc, .nilFunc, .nilFunc, .nilFunc, .nilFunc, .nilFunc, .nilFunc] 78)).setCells w'.heap.size 0 (#[.nilFunc, .func (.func 32) #[] #[], .func (.func 33) #[] #[], .func (.func 34) #[] #[], .func (.func 35) #[] #[], .func (.func 36) #[] #[], .func (.func 37) #[] #[], .func (.func 38) #[] #[], .func (.func 39) #[] #[], .func (.func 40) #[] #[], .func (.func 41) #[] #[], .func (.func 42) #[] #[], .func (.func 43) #[] #[], .func (.func 44) #[] #[]] : Array Value).toList) := (ext_alloc (ext_refl w') _).trans (setCells_below (B := w'.heap.size) (Nat.le_refl _) _ 0 _)
    generalize hW : (w'.alloc (.cells #[.nilFunc, .nilFunc, .nilFunc, .nilFunc, .nilFunc, .nilFunc, .nilFunc, .nilFunc, .nilFunc, .nilFunc, .nilFunc, .nilFunc, .nilFunc, .nilFunc] 78)).setCells w'.heap.size 0 (#[.nilFunc, .func (.func 32) #[] #[], .func (.func 33) #[] #[], .func (.func 34) #[] #[], .func (.func 35) #[] #[], .func (.func 36) #[] #[], .func (.func 37) #[] #[], .func (.func 38) #[] #[], .func (.func 39) #[] #[], .func (.func 40) #[] #[], .func (.func 41) #[] #[], .func (.func 42) #[] #[], .func (.func 43) #[] #[], .func (.func 44) #[] #[]] : Array Value).toList = W2 at *
    have HBZ := hid hbz
    have q2 := later hbz d2
    have q3 := later hbz d3
    have q20 := later hbz d20
    have q21 := later hbz d21
    have q22 := later hbz d22
    have q23 := later hbz d23
    have q24 := later hbz d24
    have q25 := later hbz d25
    have q26 := later hbz d26
    have z2 := hbz.size
    have hc2 : c < W2.heap.size := by omega
    have ht2 : tb < W2.heap.size := by omega
    have hs2 : sb < W2.heap.size := by omega
    have HZZ := hid (show c ≠ w'.heap.size ∧ tb ≠ w'.heap.size ∧ sb ≠ w'.heap.size by omega)
    clear hW hbz bz d2 d3 d20 d21 d22 d23 d24 d25 d26
    have hb2 : Below w.heap.size w W2 := ext_trans HB.out HBZ.out
    have HN1 := hid (show w.heap.size ∉ [c, tb, sb] by have := HWZ.out; simp; omega)
    have HN2 := hid (show w'.heap.size ∉ [c, tb, sb] by have := HZZ.out; simp; omega)
    cases r with
    | none =>
      have HM2 := hid fun W (hW : Below w.heap.size w W) => (HM.out W hW).mono (R' := fun e' w1 => e' = .returned (.bool false) ∧ (w1.cell? ⟨c, 3, none⟩ = some (.slice (some ⟨tb, 0, none⟩) s.ths.length s.ths.length)) ∧ Hid (CkAt w1 c tb sb s ev) ∧ Turn [c, tb, sb] W w1) (fun e' w1 hh => ⟨hh.1, (CkAt.cells hh.2.1).2.2.2.1, hid hh.2.1, hh.2.2⟩)
      clear HM hlen
      go_region_held3 (fun wq => wq.cell? ⟨c, 3, none⟩ = some (.slice (some ⟨tb, 0, none⟩) s.ths.length s.ths.length) ∧ wq.cell? ⟨w.heap.size, 0, none⟩ = some (.int .u8 9) ∧ wq.cell? ⟨w.heap.size, 1, none⟩ = some (.int .i64 (i : Int)) ∧ wq.cell? ⟨w.heap.size, 2, none⟩ = some (.int .i64 tx) ∧ wq.cell? ⟨w.heap.size, 3, none⟩ = some (.int .i64 at_) ∧ wq.cell? ⟨w.heap.size, 4, none⟩ = some (.int .i64 v) ∧ wq.cell? ⟨w.heap.size, 5, none⟩ = some (.int .i64 x) ∧ wq.cell? ⟨w.heap.size, 6, none⟩ = some (.int .u8 why) ∧ wq.cell? ⟨w'.heap.size, 9, none⟩ = some (.func (.func 40) #[] #[]))
        (first | exact ⟨hc3, ht1.cell HN1.out q20, ht1.cell HN1.out q21, ht1.cell HN1.out q22, ht1.cell HN1.out q23, ht1.cell HN1.out q24, ht1.cell HN1.out q25, ht1.cell HN1.out q26, ht1.cell HN2.out e9f⟩ | go_keep)
        ((go_at_call 40; refine (HM2.out _ ?_).mono ?_; (focus repeat (first | assumption | exact ext_refl _ | refine ext_drew ?_ | refine ext_alloc ?_ _ | refine ext_trans ?_ (by assumption))); rintro e' w1 ⟨rfl, hc3, HK1, ht1⟩))
      all_goals (
        have ht2 : Turn [c, tb, sb] w w1 := (Turn.of_below hb2).trans ((Turn.refl _ _).drew.trans ht1)
        have HT2 := hid ht2
        clear ht1 ht2
        go_wp2_with fail
        go_ret
        exact Or.inr ⟨rfl, rfl, HK1.out, HT2.out⟩)
    | some s' =>
      have hl := hlen s' rfl
      have HM2 := hid fun W (hW : Below w.heap.size w W) => (HM.out W hW).mono (R' := fun e' w1 => e' = .returned (.bool true) ∧ (w1.cell? ⟨c, 3, none⟩ = some (.slice (some ⟨tb, 0, none⟩) s.ths.length s.ths.length)) ∧ Hid (CkAt w1 c tb sb s' ev) ∧ Turn [c, tb, sb] W w1) (fun e' w1 hh => ⟨hh.1, by rw [← hl]; exact (CkAt.cells hh.2.1).2.2.2.1, hid hh.2.1, hh.2.2⟩)
      clear HM hlen hl
      go_region_held3 (fun wq => wq.cell? ⟨c, 3, none⟩ = some (.slice (some ⟨tb, 0, none⟩) s.ths.length s.ths.length) ∧ wq.cell? ⟨w.heap.size, 0, none⟩ = some (.int .u8 9) ∧ wq.cell? ⟨w.heap.size, 1, none⟩ = some (.int .i64 (i : Int)) ∧ wq.cell? ⟨w.heap.size, 2, none⟩ = some (.int .i64 tx) ∧ wq.cell? ⟨w.heap.size, 3, none⟩ = some (.int .i64 at_) ∧ wq.cell? ⟨w.heap.size, 4, none⟩ = some (.int .i64 v) ∧ wq.cell? ⟨w.heap.size, 5, none⟩ = some (.int .i64 x) ∧ wq.cell? ⟨w.heap.size, 6, none⟩ = some (.int .u8 why) ∧ wq.cell? ⟨w'.heap.size, 9, none⟩ = some (.func (.func 40) #[] #[]))
        (first | exact ⟨hc3, ht1.cell HN1.out q20, ht1.cell HN1.out q21, ht1.cell HN1.out q22, ht1.cell HN1.out q23, ht1.cell HN1.out q24, ht1.cell HN1.out q25, ht1.cell HN1.out q26, ht1.cell HN2.out e9f⟩ | go_keep)
        ((go_at_call 40; refine (HM2.out _ ?_).mono ?_; (focus repeat (first | assumption | exact ext_refl _ | refine ext_drew ?_ | refine ext_alloc ?_ _ | refine ext_trans ?_ (by assumption))); rintro e' w1 ⟨rfl, hc3, HK1, ht1⟩))
      all_goals (
        have ht2 : Turn [c, tb, sb] w w1 := (Turn.of_below hb2).trans ((Turn.refl _ _).drew.trans ht1)
        have HT2 := hid ht2
        have h2 := (CkAt.cells HK1.out).2.2.1
        have f2 : w1.frozen? ⟨c, 2, none⟩ = false := HK1.out.ck.free 2
        clear ht1 ht2 q2 q3 hb2
        go_wp2_with fail
        go_ret
        exact Or.inl ⟨s', rfl, rfl, CkR.set_ev HK1.out _, HT2.out.setCell (Or.inl (by simp)) _⟩)

set_option maxRecDepth 100000 in
set_option maxHeartbeats 4000000 in
theorem next_10 (h : CkAt w c tb sb s ev) (hK : KindsAt w) (hev : ev < 1048576) (i : Nat) (hi : i < s.ths.length) (tx at_ v x why : Int) (he : EvOk ⟨10, i, tx, at_, v, x, why⟩) (hm : mayE ⟨10, i, tx, at_, v, x, why⟩ s.ths.length s.vars s.sts.length = true) (r : Option Sh) (hlen : ∀ s', r = some s' → s'.ths.length = s.ths.length)
    (HM : Hid (∀ W, Below w.heap.size w W → Calls Tryd.prog 41 #[.pointer (some ⟨c, 0, none⟩), .pointer (some ⟨tb, i * 13, none⟩), .agg #[.int .u8 10, .int .i64 (i : Int), .int .i64 tx, .int .i64 at_, .int .i64 v, .int .i64 x, .int .u8 why]] W (StepP W c tb sb s ev r))) :
    Calls Tryd.prog 23 #[.pointer (some ⟨c, 0, none⟩), .agg #[.int .u8 10, .int .i64 (i : Int), .int .i64 tx, .int .i64 at_, .int .i64 v, .int .i64 x, .int .u8 why]] w (NextP w c tb sb s ev r) := by
  obtain ⟨c0, c1, c2, c3, c4⟩ := h.cells
  have hcl := lt_of_cell c0
  have HH := hid h
  have hne := h.ne
  have htl := h.th.lt
  have hsl := h.st.lt
  have g1 : (ev : Int) < 1048576 := by omega
  have g2 : (0 : Int) ≤ (ev : Int) := by omega
  have g3 : decide ((1048576 : Int) ≤ (ev : Int)) = false := by rw [decide_eq_false_iff_not]; omega
  have g4 : (0 : Int) ≤ (i : Int) := by omega
  have g5 : (i : Int) < (s.ths.length : Int) := by omega
  have hmay := fun W (hW : Below w.heap.size w W) => may_any ⟨10, i, tx, at_, v, x, why⟩ s.ths.length s.vars s.sts.length W he (hK.below hW)
  rw [hm] at hmay
  dsimp only [evA] at hmay
  have HMAY := hid hmay
  clear hmay
  clear h hK he hm hev hi
  go_enter Tryd.func23, Tryd.ntmps23
  go_wp2_with fail
  have b0 := (Blk.new w #[.int .u8 10, .int .i64 (i : Int), .int .i64 tx, .int .i64 at_, .int .i64 v, .int .i64 x, .int .u8 why] 45)
  apply wp_region_vals' [.agg #[.int .u8 10, .int .i64 (i : Int), .int .i64 tx, .int .i64 at_, .int .i64 v, .int .i64 x, .int .u8 why], .pointer (some ⟨c, 0, none⟩), .pointer (some ⟨c, 0, none⟩), .pointer (some ⟨c, 3, none⟩), .slice (some ⟨tb, 0, none⟩) s.ths.length s.ths.length, .int .i64 (s.ths.length : Int), .pointer (some ⟨c, 0, none⟩), .pointer (some ⟨c, 0, none⟩), .pointer (some ⟨c, 0, none⟩), .int .i64 s.vars, .pointer (some ⟨c, 0, none⟩), .pointer (some ⟨c, 0, none⟩), .pointer (some ⟨c, 4, none⟩), .slice (some ⟨sb, 0, none⟩) s.sts.length s.sts.length, .int .i64 (s.sts.length : Int), .bool true, .bool false, .bool false] (fun w' => Below (w.alloc (.cells #[.int .u8 10, .int .i64 (i : Int), .int .i64 tx, .int .i64 at_, .int .i64 v, .int .i64 x, .int .u8 why] 45)).heap.size (w.alloc (.cells #[.int .u8 10, .int .i64 (i : Int), .int .i64 tx, .int .i64 at_, .int .i64 v, .int .i64 x, .int .u8 why] 45)) w')
  focus (simp [putAll, dstOf, Act.put, List.getD]; rfl)
  case hm => kernel_rfl
  case hd => kernel_rfl
  case hb => kernel_rfl
  case hdep => kernel_rfl
  case hsel => kernel_rfl
  case hsz => kernel_rfl
  case h0 => exact ext_drew (ext_refl _)
  case hstep =>
    repeat' (first | exact trivial | (refine And.intro ?_ ?_))
    all_goals (
      intro w' hG
      rw [if_pos (by kernel_rfl)]
      intro K Qp hK
      have d0 := later hG (cell_alloc c0)
      have d3 := later hG (cell_alloc c3)
      have d4 := later hG (cell_alloc c4)
      have d20 := later hG (b0.cell 0 rfl)
      have d21 := later hG (b0.cell 1 rfl)
      have d22 := later hG (b0.cell 2 rfl)
      have d23 := later hG (b0.cell 3 rfl)
      have d24 := later hG (b0.cell 4 rfl)
      have d25 := later hG (b0.cell 5 rfl)
      have d26 := later hG (b0.cell 6 rfl)
      have hb0 : Below w.heap.size w w' := ext_trans (ext_alloc (ext_refl _) _) hG
      have HB0 := hid hb0
      have HGG := hid hG
      clear hb0 hG c0 c1 c2 c3 c4 b0
      go_simp
      first
      | exact hK _ HGG.out
      | (go_wp2_with ((with_reducible refine (HMAY.out _ HB0.out).mono ?_); rintro e' w1 ⟨rfl, hb1⟩)
         first | (with_reducible exact HGG.out) | exact ext_trans HGG.out hb1 | exact hK _ HGG.out | exact hK _ (ext_trans HGG.out hb1)))
  case hdone =>
    intro w' hG
    have hb : Below w.heap.size w w' := ext_trans (ext_alloc (ext_refl _) _) hG
    have d2 := later hb c2
    have d3 := later hb c3
    have d20 := later hG (b0.cell 0 rfl)
    have d21 := later hG (b0.cell 1 rfl)
    have d22 := later hG (b0.cell 2 rfl)
    have d23 := later hG (b0.cell 3 rfl)
    have d24 := later hG (b0.cell 4 rfl)
    have d25 := later hG (b0.cell 5 rfl)
    have d26 := later hG (b0.cell 6 rfl)
    have z1 : w.heap.size < w'.heap.size := by have := hG.size; simp at this; omega
    have hc1 : c < w'.heap.size := by omega
    have ht1 : tb < w'.heap.size := by omega
    have hs1 : sb < w'.heap.size := by omega
    have HB := hid hb
    have HWZ := hid (show c ≠ w.heap.size ∧ tb ≠ w.heap.size ∧ sb ≠ w.heap.size by omega)
    clear hb hG c0 c1 c2 c3 c4 b0
    have bz := Blk.new w' #[.nilFunc, .nilFunc, .nilFunc, .nilFunc, .nilFunc, .nilFunc, .nilFunc, .nilFunc, .nilFunc, .nilFunc, .nilFunc, .nilFunc, .nilFunc, .nilFunc] 78
    have hth := there_blk (n := 14) bz rfl
    have hi1 : (Tryd.prog.info? 78).map (·.size) = some (#[.nilFunc, .func (.func 32) #[] #[], .func (.func 33) #[] #[], .func (.func 34) #[] #[], .func (.func 35) #[] #[], .func (.func 36) #[] #[], .func (.func 37) #[] #[], .func (.func 38) #[] #[], .func (.func 39) #[] #[], .func (.func 40) #[] #[], .func (.func 41) #[] #[], .func (.func 42) #[] #[], .func (.func 43) #[] #[], .func (.func 44) #[] #[]] : Array Value).size := by kernel_rfl
    have hi2 : (#[.nilFunc, .func (.func 32) #[] #[], .func (.func 33) #[] #[], .func (.func 34) #[] #[], .func (.func 35) #[] #[], .func (.func 36) #[] #[], .func (.func 37) #[] #[], .func (.func 38) #[] #[], .func (.func 39) #[] #[], .func (.func 40) #[] #[], .func (.func 41) #[] #[], .func (.func 42) #[] #[], .func (.func 43) #[] #[], .func (.func 44) #[] #[]] : Array Value).all (·.oneCell') = true := by kernel_rfl
    have HI1 := hid hi1
    have HI2 := hid hi2
    have HTH := hid hth
    clear hi1 hi2 hth
    go_wp2_with (refine wpList_store_mid rfl 78 (.tmp 5) (.tmp 33) rfl w'.heap.size 0 #[.nilFunc, .func (.func 32) #[] #[], .func (.func 33) #[] #[], .func (.func 34) #[] #[], .func (.func 35) #[] #[], .func (.func 36) #[] #[], .func (.func 37) #[] #[], .func (.func 38) #[] #[], .func (.func 39) #[] #[], .func (.func 40) #[] #[], .func (.func 41) #[] #[], .func (.func 42) #[] #[], .func (.func 43) #[] #[], .func (.func 44) #[] #[]] rfl rfl HTH.out HI1.out HI2.out ?_)
    have e10f := setCells_cell bz (#[.nilFunc, .func (.func 32) #[] #[], .func (.func 33) #[] #[], .func (.func 34) #[] #[], .func (.func 35) #[] #[], .func (.func 36) #[] #[], .func (.func 37) #[] #[], .func (.func 38) #[] #[], .func (.func 39) #[] #[], .func (.func 40) #[] #[], .func (.func 41) #[] #[], .func (.func 42) #[] #[], .func (.func 43) #[] #[], .func (.func 44) #[] #[]] : Array Value).toList rfl 10 (v := .func (.func 41) #[] #[]) rfl
    have hbz : Below w'.heap.size w' ((w'.alloc (.cells #[.nilFunc, .nilFunc, .nilFunc, .nilFunc, .nilFunc, .nilFunc, .nilFunc, .nilFunc, .nilFunc, .nilFunc, .nilFunc, .nilFunc, .nilFunc, .nilFunc] 78)).setCells w'.heap.size 0 (#[.nilFunc, .func (.func 32) #[] #[], .func (.func 33) #[] #[], .func (.func 34) #[] #[], .func (.func 35) #[] #[], .func (.func 36) #[] #[], .func (.func 37) #[] #[], .func (.func 38) #[] #[], .func (.func 39) #[] #[], .func (.func 40) #[] #[], .func (.func 41) #[] #[], .func (.func 42) #[] #[], .func (.func 43) #[] #[], .func (.func 44) #[] #[]] : Array Value).toList) := (ext_alloc (ext_refl w') _).trans (setCells_below (B := w'.heap.size) (Nat.le_refl _) _ 0 _)
    generalize hW : (w'.alloc (.cells #[.nilFunc, .nilFunc, .nilFunc, .nilFunc, .nilFunc, .nilFunc, .nilFunc, .nilFunc, .nilFunc, .nilFunc, .nilFunc, .nilFunc, .nilFunc, .nilFunc] 78)).setCells w'.heap.size 0 (#[.nilFunc, .func (.func 32) #[] #[], .func (.func 33) #[] #[], .func (.func 34) #[] #[], .func (.func 35) #[] #[], .func (.func 36) #[] #[], .func (.func 37) #[] #[], .func (.func 38) #[] #[], .func (.func 39) #[] #[], .func (.func 40) #[] #[], .func (.func 41) #[] #[], .func (.func 42) #[] #[], .func (.func 43) #[] #[], .func (.func 44) #[] #[]] : Array Value).toList = W2 at *
    have HBZ := hid hbz
    have q2 := later hbz d2
    have q3 := later hbz d3
    have q20 := later hbz d20
    have q21 := later hbz d21
    have q22 := later hbz d22
    have q23 := later hbz d23
    have q24 := later hbz d24
    have q25 := later hbz d25
    have q26 := later hbz d26
    have z2 := hbz.size
    have hc2 : c < W2.heap.size := by omega
    have ht2 : tb < W2.heap.size := by omega
    have hs2 : sb < W2.heap.size := by omega
    have HZZ := hid (show c ≠ w'.heap.size ∧ tb ≠ w'.heap.size ∧ sb ≠ w'.heap.size by omega)
    clear hW hbz bz d2 d3 d20 d21 d22 d23 d24 d25 d26
    have hb2 : Below w.heap.size w W2 := ext_trans HB.out HBZ.out
    have HN1 := hid (show w.heap.size ∉ [c, tb, sb] by have := HWZ.out; simp; omega)
    have HN2 := hid (show w'.heap.size ∉ [c, tb, sb] by have := HZZ.out; simp; omega)
    cases r with
    | none =>
      have HM2 := hid fun W (hW : Below w.heap.size w W) => (HM.out W hW).mono (R' := fun e' w1 => e' = .returned (.bool false) ∧ (w1.cell? ⟨c, 3, none⟩ = some (.slice (some ⟨tb, 0, none⟩) s.ths.length s.ths.length)) ∧ Hid (CkAt w1 c tb sb s ev) ∧ Turn [c, tb, sb] W w1) (fun e' w1 hh => ⟨hh.1, (CkAt.cells hh.2.1).2.2.2.1, hid hh.2.1, hh.2.2⟩)
      clear HM hlen
      go_region_held3 (fun wq => wq.cell? ⟨c, 3, none⟩ = some (.slice (some ⟨tb, 0, none⟩) s.ths.length s.ths.length) ∧ wq.cell? ⟨w.heap.size, 0, none⟩ = some (.int .u8 10) ∧ wq.cell? ⟨w.heap.size, 1, none⟩ = some (.int .i64 (i : Int)) ∧ wq.cell? ⟨w.heap.size, 2, none⟩ = some (.int .i64 tx) ∧ wq.cell? ⟨w.heap.size, 3, none⟩ = some (.int .i64 at_) ∧ wq.cell? ⟨w.heap.size, 4, none⟩ = some (.int .i64 v) ∧ wq.cell? ⟨w.heap.size, 5, none⟩ = some (.int .i64 x) ∧ wq.cell? ⟨w.heap.size, 6, none⟩ = some (.int .u8 why) ∧ wq.cell? ⟨w'.heap.size, 10, none⟩ = some (.func (.func 41) #[] #[]))
        (first | exact ⟨hc3, ht1.cell HN1.out q20, ht1.cell HN1.out q21, ht1.cell HN1.out q22, ht1.cell HN1.out q23, ht1.cell HN1.out q24, ht1.cell HN1.out q25, ht1.cell HN1.out q26, ht1.cell HN2.out e10f⟩ | go_keep)
        ((go_at_call 41; refine (HM2.out _ ?_).mono ?_; (focus repeat (first | assumption | exact ext_refl _ | refine ext_drew ?_ | refine ext_alloc ?_ _ | refine ext_trans ?_ (by assumption))); rintro e' w1 ⟨rfl, hc3, HK1, ht1⟩))
      all_goals (
        have ht2 : Turn [c, tb, sb] w w1 := (Turn.of_below hb2).trans ((Turn.refl _ _).drew.trans ht1)
        have HT2 := hid ht2
        clear ht1 ht2
        go_wp2_with fail
        go_ret
        exact Or.inr ⟨rfl, rfl, HK1.out, HT2.out⟩)
    | some s' =>
      have hl := hlen s' rfl
      have HM2 := hid fun W (hW : Below w.heap.size w W) => (HM.out W hW).mono (R' := fun e' w1 => e' = .returned (.bool true) ∧ (w1.cell? ⟨c, 3, none⟩ = some (.slice (some ⟨tb, 0, none⟩) s.ths.length s.ths.length)) ∧ Hid (CkAt w1 c tb sb s' ev) ∧ Turn [c, tb, sb] W w1) (fun e' w1 hh => ⟨hh.1, by rw [← hl]; exact (CkAt.cells hh.2.1).2.2.2.1, hid hh.2.1, hh.2.2⟩)
      clear HM hlen hl
      go_region_held3 (fun wq => wq.cell? ⟨c, 3, none⟩ = some (.slice (some ⟨tb, 0, none⟩) s.ths.length s.ths.length) ∧ wq.cell? ⟨w.heap.size, 0, none⟩ = some (.int .u8 10) ∧ wq.cell? ⟨w.heap.size, 1, none⟩ = some (.int .i64 (i : Int)) ∧ wq.cell? ⟨w.heap.size, 2, none⟩ = some (.int .i64 tx) ∧ wq.cell? ⟨w.heap.size, 3, none⟩ = some (.int .i64 at_) ∧ wq.cell? ⟨w.heap.size, 4, none⟩ = some (.int .i64 v) ∧ wq.cell? ⟨w.heap.size, 5, none⟩ = some (.int .i64 x) ∧ wq.cell? ⟨w.heap.size, 6, none⟩ = some (.int .u8 why) ∧ wq.cell? ⟨w'.heap.size, 10, none⟩ = some (.func (.func 41) #[] #[]))
        (first | exact ⟨hc3, ht1.cell HN1.out q20, ht1.cell HN1.out q21, ht1.cell HN1.out q22, ht1.cell HN1.out q23, ht1.cell HN1.out q24, ht1.cell HN1.out q25, ht1.cell HN1.out q26, ht1.cell HN2.out e10f⟩ | go_keep)
        ((go_at_call 41; refine (HM2.out _ ?_).mono ?_; (focus repeat (first | assumption | exact ext_refl _ | refine ext_drew ?_ | refine ext_alloc ?_ _ | refine ext_trans ?_ (by assumption))); rintro e' w1 ⟨rfl, hc3, HK1, ht1⟩))
      all_goals (
        have ht2 : Turn [c, tb, sb] w w1 := (Turn.of_below hb2).trans ((Turn.refl _ _).drew.trans ht1)
        have HT2 := hid ht2
        have h2 := (CkAt.cells HK1.out).2.2.1
        have f2 : w1.frozen? ⟨c, 2, none⟩ = false := HK1.out.ck.free 2
        clear ht1 ht2 q2 q3 hb2
        go_wp2_with fail
        go_ret
        exact Or.inl ⟨s', rfl, rfl, CkR.set_ev HK1.out _, HT2.out.setCell (Or.inl (by simp)) _⟩)

set_option maxRecDepth 100000 in
set_option maxHeartbeats 4000000 in
theorem next_11 (h : CkAt w c tb sb s ev) (hK : KindsAt w) (hev : ev < 1048576) (i : Nat) (hi : i < s.ths.length) (tx at_ v x why : Int) (he : EvOk ⟨11, i, tx, at_, v, x, why⟩) (hm : mayE ⟨11, i, tx, at_, v, x, why⟩ s.ths.length s.vars s.sts.length = true) (r : Option Sh) (hlen : ∀ s', r = some s' → s'.ths.length = s.ths.length)
    (HM : Hid (∀ W, Below w.heap.size w W → Calls Tryd.prog 42 #[.pointer (some ⟨c, 0, none⟩), .pointer (some ⟨tb, i * 13, none⟩), .agg #[.int .u8 11, .int .i64 (i : Int), .int .i64 tx, .int .i64 at_, .int .i64 v, .int .i64 x, .int .u8 why]] W (StepP W c tb sb s ev r))) :
    Calls Tryd.prog 23 #[.pointer (some ⟨c, 0, none⟩), .agg #[.int .u8 11, .int .i64 (i : Int), .int .i64 tx, .int .i64 at_, .int .i64 v, .int .i64 x, .int .u8 why]] w (NextP w c tb sb s ev r) := by
  obtain ⟨c0, c1, c2, c3, c4⟩ := h.cells
  have hcl := lt_of_cell c0
  have HH := hid h
  have hne := h.ne
  have htl := h.th.lt
  have hsl := h.st.lt
  have g1 : (ev : Int) < 1048576 := by omega
  have g2 : (0 : Int) ≤ (ev : Int) := by omega
  have g3 : decide ((1048576 : Int) ≤ (ev : Int)) = false := by rw [decide_eq_false_iff_not]; omega
  have g4 : (0 : Int) ≤ (i : Int) := by omega
  have g5 : (i : Int) < (s.ths.length : Int) := by omega
  have hmay := fun W (hW : Below w.heap.size w W) => may_any ⟨11, i, tx, at_, v, x, why⟩ s.ths.length s.vars s.sts.length W he (hK.below hW)
  rw [hm] at hmay
  dsimp only [evA] at hmay
  have HMAY := hid hmay
  clear hmay
  clear h hK he hm hev hi
  go_enter Tryd.func23, Tryd.ntmps23
  go_wp2_with fail
  have b0 := (Blk.new w #[.int .u8 11, .int .i64 (i : Int), .int .i64 tx, .int .i64 at_, .int .i64 v, .int .i64 x, .int .u8 why] 45)
  apply wp_region_vals' [.agg #[.int .u8 11, .int .i64 (i : Int), .int .i64 tx, .int .i64 at_, .int .i64 v, .int .i64 x, .int .u8 why], .pointer (some ⟨c, 0, none⟩), .pointer (some ⟨c, 0, none⟩), .pointer (some ⟨c, 3, none⟩), .slice (some ⟨tb, 0, none⟩) s.ths.length s.ths.length, .int .i64 (s.ths.length : Int), .pointer (some ⟨c, 0, none⟩), .pointer (some ⟨c, 0, none⟩), .pointer (some ⟨c, 0, none⟩), .int .i64 s.vars, .pointer (some ⟨c, 0, none⟩), .pointer (some ⟨c, 0, none⟩), .pointer (some ⟨c, 4, none⟩), .slice (some ⟨sb, 0, none⟩) s.sts.length s.sts.length, .int .i64 (s.sts.length : Int), .bool true, .bool false, .bool false] (fun w' => Below (w.alloc (.cells #[.int .u8 11, .int .i64 (i : Int), .int .i64 tx, .int .i64 at_, .int .i64 v, .int .i64 x, .int .u8 why] 45)).heap.size (w.alloc (.cells #[.int .u8 11, .int .i64 (i : Int), .int .i64 tx, .int .i64 at_, .int .i64 v, .int .i64 x, .int .u8 why] 45)) w')
  focus (simp [putAll, dstOf, Act.put, List.getD]; rfl)
  case hm => kernel_rfl
  case hd => kernel_rfl
  case hb => kernel_rfl
  case hdep => kernel_rfl
  case hsel => kernel_rfl
  case hsz => kernel_rfl
  case h0 => exact ext_drew (ext_refl _)
  case hstep =>
    repeat' (first | exact trivial | (refine And.intro ?_ ?_))
    all_goals (
      intro w' hG
      rw [if_pos (by kernel_rfl)]
      intro K Qp hK
      have d0 := later hG (cell_alloc c0)
      have d3 := later hG (cell_alloc c3)
      have d4 := later hG (cell_alloc c4)
      have d20 := later hG (b0.cell 0 rfl)
      have d21 := later hG (b0.cell 1 rfl)
      have d22 := later hG (b0.cell 2 rfl)
      have d23 := later hG (b0.cell 3 rfl)
      have d24 := later hG (b0.cell 4 rfl)
      have d25 := later hG (b0.cell 5 rfl)
      have d26 := later hG (b0.cell 6 rfl)
      have hb0 : Below w.heap.size w w' := ext_trans (ext_alloc (ext_refl _) _) hG
      have HB0 := hid hb0
      have HGG := hid hG
      clear hb0 hG c0 c1 c2 c3 c4 b0
      go_simp
      first
      | exact hK _ HGG.out
      | (go_wp2_with ((with_reducible refine (HMAY.out _ HB0.out).mono ?_); rintro e' w1 ⟨rfl, hb1⟩)
         first | (with_reducible exact HGG.out) | exact ext_trans HGG.out hb1 | exact hK _ HGG.out | exact hK _ (ext_trans HGG.out hb1)))
  case hdone =>
    intro w' hG
    have hb : Below w.heap.size w w' := ext_trans (ext_alloc (ext_refl _) _) hG
    have d2 := later hb c2
    have d3 := later hb c3
    have d20 := later hG (b0.cell 0 rfl)
    have d21 := later hG (b0.cell 1 rfl)
    have d22 := later hG (b0.cell 2 rfl)
    have d23 := later hG (b0.cell 3 rfl)
    have d24 := later hG (b0.cell 4 rfl)
    have d25 := later hG (b0.cell 5 rfl)
    have d26 := later hG (b0.cell 6 rfl)
    have z1 : w.heap.size < w'.heap.size := by have := hG.size; simp at this; omega
    have hc1 : c < w'.heap.size := by omega
    have ht1 : tb < w'.heap.size := by omega
    have hs1 : sb < w'.heap.size := by omega
    have HB := hid hb
    have HWZ := hid (show c ≠ w.heap.size ∧ tb ≠ w.heap.size ∧ sb ≠ w.heap.size by omega)
    clear hb hG c0 c1 c2 c3 c4 b0
    have bz := Blk.new w' #[.nilFunc, .nilFunc, .nilFunc, .nilFunc, .nilFunc, .nilFunc, .nilFunc, .nilFunc, .nilFunc, .nilFunc, .nilFunc, .nilFunc, .nilFunc, .nilFunc] 78
    have hth := there_blk (n := 14) bz rfl
    have hi1 : (Tryd.prog.info? 78).map (·.size) = some (#[.nilFunc, .func (.func 32) #[] #[], .func (.func 33) #[] #[], .func (.func 34) #[] #[], .func (.func 35) #[] #[], .func (.func 36) #[] #[], .func (.func 37) #[] #[], .func (.func 38) #[] #[], .func (.func 39) #[] #[], .func (.func 40) #[] #[], .func (.func 41) #[] #[], .func (.func 42) #[] #[], .func (.func 43) #[] #[], .func (.func 44) #[] #[]] : Array Value).size := by kernel_rfl
    have hi2 : (#[.nilFunc, .func (.func 32) #[] #[], .func (.func 33) #[] #[], .func (.func 34) #[] #[], .func (.func 35) #[] #[], .func (.func 36) #[] #[], .func (.func 37) #[] #[], .func (.func 38) #[] #[], .func (.func 39) #[] #[], .func (.func 40) #[] #[], .func (.func 41) #[] #[], .func (.func 42) #[] #[], .func (.func 43) #[] #[], .func (.func 44) #[] #[]] : Array Value).all (·.oneCell') = true := by kernel_rfl
    have HI1 := hid hi1
    have HI2 := hid hi2
    have HTH := hid hth
    clear hi1 hi2 hth
    go_wp2_with (refine wpList_store_mid rfl 78 (.tmp 5) (.tmp 33) rfl w'.heap.size 0 #[.nilFunc, .func (.func 32) #[] #[], .func (.func 33) #[] #[], .func (.func 34) #[] #[], .func (.func 35) #[] #[], .func (.func 36) #[] #[], .func (.func 37) #[] #[], .func (.func 38) #[] #[], .func (.func 39) #[] #[], .func (.func 40) #[] #[], .func (.func 41) #[] #[], .func (.func 42) #[] #[], .func (.func 43) #[] #[], .func (.func 44) #[] #[]] rfl rfl HTH.out HI1.out HI2.out ?_)
    have e11f := setCells_cell bz (#[.nilFunc, .func (.func 32) #[] #[], .func (.func 33) #[] #[], .func (.func 34) #[] #[], .func (.func 35) #[] #[], .func (.func 36) #[] #[], .func (.func 37) #[] #[], .func (.func 38) #[] #[], .func (.func 39) #[] #[], .func (.func 40) #[] #[], .func (.func 41) #[] #[], .func (.func 42) #[] #[], .func (.func 43) #[] #[], .func (.func 44) #[] #[]] : Array Value).toList rfl 11 (v := .func (.func 42) #[] #[]) rfl
    have hbz : Below w'.heap.size w' ((w'.alloc (.cells #[.nilFunc, .nilFunc, .nilFunc, .nilFunc, .nilFunc, .nilFunc, .nilFunc, .nilFunc, .nilFunc, .nilFunc, .nilFunc, .nilFunc, .nilFunc, .nilFunc] 78)).setCells w'.heap.size 0 (#[.nilFunc, .func (.func 32) #[] #[], .func (.func 33) #[] #[], .func (.func 34) #[] #[], .func (.func 35) #[] #[], .func (.func 36) #[] #[], .func (.func 37) #[] #[], .func (.func 38) #[] #[], .func (.func 39) #[] #[], .func (.func 40) #[] #[], .func (.func 41) #[] #[], .func (.func 42) #[] #[], .func (.func 43) #[] #[], .func (.func 44) #[] #[]] : Array Value).toList) := (ext_alloc (ext_refl w') _).trans (setCells_below (B := w'.heap.size) (Nat.le_refl _) _ 0 _)
    generalize hW : (w'.alloc (.cells #[.nilFunc, .nilFunc, .nilFunc, .nilFunc, .nilFunc, .nilFunc, .nilFunc, .nilFunc, .nilFunc, .nilFunc, .nilFunc, .nilFunc, .nilFunc, .nilFunc] 78)).setCells w'.heap.size 0 (#[.nilFunc, .func (.func 32) #[] #[], .func (.func 33) #[] #[], .func (.func 34) #[] #[], .func (.func 35) #[] #[], .func (.func 36) #[] #[], .func (.func 37) #[] #[], .func (.func 38) #[] #[], .func (.func 39) #[] #[], .func (.func 40) #[] #[], .func (.func 41) #[] #[], .func (.func 42) #[] #[], .func (.func 43) #[] #[], .func (.func 44) #[] #[]] : Array Value).toList = W2 at *
    have HBZ := hid hbz
    have q2 := later hbz d2
    have q3 := later hbz d3
    have q20 := later hbz d20
    have q21 := later hbz d21
    have q22 := later hbz d22
    have q23 := later hbz d23
    have q24 := later hbz d24
    have q25 := later hbz d25
    have q26 := later hbz d26
    have z2 := hbz.size
    have hc2 : c < W2.heap.size := by omega
    have ht2 : tb < W2.heap.size := by omega
    have hs2 : sb < W2.heap.size := by omega
    have HZZ := hid (show c ≠ w'.heap.size ∧ tb ≠ w'.heap.size ∧ sb ≠ w'.heap.size by omega)
    clear hW hbz bz d2 d3 d20 d21 d22 d23 d24 d25 d26
    have hb2 : Below w.heap.size w W2 := ext_trans HB.out HBZ.out
    have HN1 := hid (show w.heap.size ∉ [c, tb, sb] by have := HWZ.out; simp; omega)
    have HN2 := hid (show w'.heap.size ∉ [c, tb, sb] by have := HZZ.out; simp; omega)
    cases r with
    | none =>
      have HM2 := hid fun W (hW : Below w.heap.size w W) => (HM.out W hW).mono (R' := fun e' w1 => e' = .returned (.bool false) ∧ (w1.cell? ⟨c, 3, none⟩ = some (.slice (some ⟨tb, 0, none⟩) s.ths.length s.ths.length)) ∧ Hid (CkAt w1 c tb sb s ev) ∧ Turn [c, tb, sb] W w1) (fun e' w1 hh => ⟨hh.1, (CkAt.cells hh.2.1).2.2.2.1, hid hh.2.1, hh.2.2⟩)
      clear HM hlen
      go_region_held3 (fun wq => wq.cell? ⟨c, 3, none⟩ = some (.slice (some ⟨tb, 0, none⟩) s.ths.length s.ths.length) ∧ wq.cell? ⟨w.heap.size, 0, none⟩ = some (.int .u8 11) ∧ wq.cell? ⟨w.heap.size, 1, none⟩ = some (.int .i64 (i : Int)) ∧ wq.cell? ⟨w.heap.size, 2, none⟩ = some (.int .i64 tx) ∧ wq.cell? ⟨w.heap.size, 3, none⟩ = some (.int .i64 at_) ∧ wq.cell? ⟨w.heap.size, 4, none⟩ = some (.int .i64 v) ∧ wq.cell? ⟨w.heap.size, 5, none⟩ = some (.int .i64 x) ∧ wq.cell? ⟨w.heap.size, 6, none⟩ = some (.int .u8 why) ∧ wq.cell? ⟨w'.heap.size, 11, none⟩ = some (.func (.func 42) #[] #[]))
        (first | exact ⟨hc3, ht1.cell HN1.out q20, ht1.cell HN1.out q21, ht1.cell HN1.out q22, ht1.cell HN1.out q23, ht1.cell HN1.out q24, ht1.cell HN1.out q25, ht1.cell HN1.out q26, ht1.cell HN2.out e11f⟩ | go_keep)
        ((go_at_call 42; refine (HM2.out _ ?_).mono ?_; (focus repeat (first | assumption | exact ext_refl _ | refine ext_drew ?_ | refine ext_alloc ?_ _ | refine ext_trans ?_ (by assumption))); rintro e' w1 ⟨rfl, hc3, HK1, ht1⟩))
      all_goals (
        have ht2 : Turn [c, tb, sb] w w1 := (Turn.of_below hb2).trans ((Turn.refl _ _).drew.trans ht1)
        have HT2 := hid ht2
        clear ht1 ht2
        go_wp2_with fail
        go_ret
        exact Or.inr ⟨rfl, rfl, HK1.out, HT2.out⟩)
    | some s' =>
      have hl := hlen s' rfl
      have HM2 := hid fun W (hW : Below w.heap.size w W) => (HM.out W hW).mono (R' := fun e' w1 => e' = .returned (.bool true) ∧ (w1.cell? ⟨c, 3, none⟩ = some (.slice (some ⟨tb, 0, none⟩) s.ths.length s.ths.length)) ∧ Hid (CkAt w1 c tb sb s' ev) ∧ Turn [c, tb, sb] W w1) (fun e' w1 hh => ⟨hh.1, by rw [← hl]; exact (CkAt.cells hh.2.1).2.2.2.1, hid hh.2.1, hh.2.2⟩)
      clear HM hlen hl
      go_region_held3 (fun wq => wq.cell? ⟨c, 3, none⟩ = some (.slice (some ⟨tb, 0, none⟩) s.ths.length s.ths.length) ∧ wq.cell? ⟨w.heap.size, 0, none⟩ = some (.int .u8 11) ∧ wq.cell? ⟨w.heap.size, 1, none⟩ = some (.int .i64 (i : Int)) ∧ wq.cell? ⟨w.heap.size, 2, none⟩ = some (.int .i64 tx) ∧ wq.cell? ⟨w.heap.size, 3, none⟩ = some (.int .i64 at_) ∧ wq.cell? ⟨w.heap.size, 4, none⟩ = some (.int .i64 v) ∧ wq.cell? ⟨w.heap.size, 5, none⟩ = some (.int .i64 x) ∧ wq.cell? ⟨w.heap.size, 6, none⟩ = some (.int .u8 why) ∧ wq.cell? ⟨w'.heap.size, 11, none⟩ = some (.func (.func 42) #[] #[]))
        (first | exact ⟨hc3, ht1.cell HN1.out q20, ht1.cell HN1.out q21, ht1.cell HN1.out q22, ht1.cell HN1.out q23, ht1.cell HN1.out q24, ht1.cell HN1.out q25, ht1.cell HN1.out q26, ht1.cell HN2.out e11f⟩ | go_keep)
        ((go_at_call 42; refine (HM2.out _ ?_).mono ?_; (focus repeat (first | assumption | exact ext_refl _ | refine ext_drew ?_ | refine ext_alloc ?_ _ | refine ext_trans ?_ (by assumption))); rintro e' w1 ⟨rfl, hc3, HK1, ht1⟩))
      all_goals (
        have ht2 : Turn [c, tb, sb] w w1 := (Turn.of_below hb2).trans ((Turn.refl _ _).drew.trans ht1)
        have HT2 := hid ht2
        have h2 := (CkAt.cells HK1.out).2.2.1
        have f2 : w1.frozen? ⟨c, 2, none⟩ = false := HK1.out.ck.free 2
        clear ht1 ht2 q2 q3 hb2
        go_wp2_with fail
        go_ret
        exact Or.inl ⟨s', rfl, rfl, CkR.set_ev HK1.out _, HT2.out.setCell (Or.inl (by simp)) _⟩)

set_option maxRecDepth 100000 in
set_option maxHeartbeats 4000000 in
theorem next_12 (h : CkAt w c tb sb s ev) (hK : KindsAt w) (hev : ev < 1048576) (i : Nat) (hi : i < s.ths.length) (tx at_ v x why : Int) (he : EvOk ⟨12, i, tx, at_, v, x, why⟩) (hm : mayE ⟨12, i, tx, at_, v, x, why⟩ s.ths.length s.vars s.sts.length = true) (r : Option Sh) (hlen : ∀ s', r = some s' → s'.ths.length = s.ths.length)
    (HM : Hid (∀ W, Below w.heap.size w W → Calls Tryd.prog 43 #[.pointer (some ⟨c, 0, none⟩), .pointer (some ⟨tb, i * 13, none⟩), .agg #[.int .u8 12, .int .i64 (i : Int), .int .i64 tx, .int .i64 at_, .int .i64 v, .int .i64 x, .int .u8 why]] W (StepP W c tb sb s ev r))) :
    Calls Tryd.prog 23 #[.pointer (some ⟨c, 0, none⟩), .agg #[.int .u8 12, .int .i64 (i : Int), .int .i64 tx, .int .i64 at_, .int .i64 v, .int .i64 x, .int .u8 why]] w (NextP w c tb sb s ev r) := by
  obtain ⟨c0, c1, c2, c3, c4⟩ := h.cells
  have hcl := lt_of_cell c0
  have HH := hid h
  have hne := h.ne
  have htl := h.th.lt
  have hsl := h.st.lt
  have g1 : (ev : Int) < 1048576 := by omega
  have g2 : (0 : Int) ≤ (ev : Int) := by omega
  have g3 : decide ((1048576 : Int) ≤ (ev : Int)) = false := by rw [decide_eq_false_iff_not]; omega
  have g4 : (0 : Int) ≤ (i : Int) := by omega
  have g5 : (i : Int) < (s.ths.length : Int) := by omega
  have hmay := fun W (hW : Below w.heap.size w W) => may_any ⟨12, i, tx, at_, v, x, why⟩ s.ths.length s.vars s.sts.length W he (hK.below hW)
  rw [hm] at hmay
  dsimp only [evA] at hmay
  have HMAY := hid hmay
  clear hmay
  clear h hK he hm hev hi
  go_enter Tryd.func23, Tryd.ntmps23
  go_wp2_with fail
  have b0 := (Blk.new w #[.int .u8 12, .int .i64 (i : Int), .int .i64 tx, .int .i64 at_, .int .i64 v, .int .i64 x, .int .u8 why] 45)
  apply wp_region_vals' [.agg #[.int .u8 12, .int .i64 (i : Int), .int .i64 tx, .int .i64 at_, .int .i64 v, .int .i64 x, .int .u8 why], .pointer (some ⟨c, 0, none⟩), .pointer (some ⟨c, 0, none⟩), .pointer (some ⟨c, 3, none⟩), .slice (some ⟨tb, 0, none⟩) s.ths.length s.ths.length, .int .i64 (s.ths.length : Int), .pointer (some ⟨c, 0, none⟩), .pointer (some ⟨c, 0, none⟩), .pointer (some ⟨c, 0, none⟩), .int .i64 s.vars, .pointer (some ⟨c, 0, none⟩), .pointer (some ⟨c, 0, none⟩), .pointer (some ⟨c, 4, none⟩), .slice (some ⟨sb, 0, none⟩) s.sts.length s.sts.length, .int .i64 (s.sts.length : Int), .bool true, .bool false, .bool false] (fun w' => Below (w.alloc (.cells #[.int .u8 12, .int .i64 (i : Int), .int .i64 tx, .int .i64 at_, .int .i64 v, .int .i64 x, .int .u8 why] 45)).heap.size (w.alloc (.cells #[.int .u8 12, .int .i64 (i : Int), .int .i64 tx, .int .i64 at_, .int .i64 v, .int .i64 x, .int .u8 why] 45)) w')
  focus (simp [putAll, dstOf, Act.put, List.getD]; rfl)
  case hm => kernel_rfl
  case hd => kernel_rfl
  case hb => kernel_rfl
  case hdep => kernel_rfl
  case hsel => kernel_rfl
  case hsz => kernel_rfl
  case h0 => exact ext_drew (ext_refl _)
  case hstep =>
    repeat' (first | exact trivial | (refine And.intro ?_ ?_))
    all_goals (
      intro w' hG
      rw [if_pos (by kernel_rfl)]
      intro K Qp hK
      have d0 := later hG (cell_alloc c0)
      have d3 := later hG (cell_alloc c3)
      have d4 := later hG (cell_alloc c4)
      have d20 := later hG (b0.cell 0 rfl)
      have d21 := later hG (b0.cell 1 rfl)
      have d22 := later hG (b0.cell 2 rfl)
      have d23 := later hG (b0.cell 3 rfl)
      have d24 := later hG (b0.cell 4 rfl)
      have d25 := later hG (b0.cell 5 rfl)
      have d26 := later hG (b0.cell 6 rfl)
      have hb0 : Below w.heap.size w w' := ext_trans (ext_alloc (ext_refl _) _) hG
      have HB0 := hid hb0
      have HGG := hid hG
      clear hb0 hG c0 c1 c2 c3 c4 b0
      go_simp
      first
      | exact hK _ HGG.out
      | (go_wp2_with ((with_reducible refine (HMAY.out _ HB0.out).mono ?_); rintro e' w1 ⟨rfl, hb1⟩)
         first | (with_reducible exact HGG.out) | exact ext_trans HGG.out hb1 | exact hK _ HGG.out | exact hK _ (ext_trans HGG.out hb1)))
  case hdone =>
    intro w' hG
    have hb : Below w.heap.size w w' := ext_trans (ext_alloc (ext_refl _) _) hG
    have d2 := later hb c2
    have d3 := later hb c3
    have d20 := later hG (b0.cell 0 rfl)
    have d21 := later hG (b0.cell 1 rfl)
    have d22 := later hG (b0.cell 2 rfl)
    have d23 := later hG (b0.cell 3 rfl)
    have d24 := later hG (b0.cell 4 rfl)
    have d25 := later hG (b0.cell 5 rfl)
    have d26 := later hG (b0.cell 6 rfl)
    have z1 : w.heap.size < w'.heap.size := by have := hG.size; simp at this; omega
    have hc1 : c < w'.heap.size := by omega
    have ht1 : tb < w'.heap.size := by omega
    have hs1 : sb < w'.heap.size := by omega
    have HB := hid hb
    have HWZ := hid (show c ≠ w.heap.size ∧ tb ≠ w.heap.size ∧ sb ≠ w.heap.size by omega)
    clear hb hG c0 c1 c2 c3 c4 b0
    have bz := Blk.new w' #[.nilFunc, .nilFunc, .nilFunc, .nilFunc, .nilFunc, .nilFunc, .nilFunc, .nilFunc, .nilFunc, .nilFunc, .nilFunc, .nilFunc, .nilFunc, .nilFunc] 78
    have hth := there_blk (n := 14) bz rfl
    have hi1 : (Tryd.prog.info? 78).map (·.size) = some (#[.nilFunc, .func (.func 32) #[] #[], .func (.func 33) #[] #[], .func (.func 34) #[] #[], .func (.func 35) #[] #[], .func (.func 36) #[] #[], .func (.func 37) #[] #[], .func (.func 38) #[] #[], .func (.func 39) #[] #[], .func (.func 40) #[] #[], .func (.func 41) #[] #[], .func (.func 42) #[] #[], .func (.func 43) #[] #[], .func (.func 44) #[] #[]] : Array Value).size := by kernel_rfl
    have hi2 : (#[.nilFunc, .func (.func 32) #[] #[], .func (.func 33) #[] #[], .func (.func 34) #[] #[], .func (.func 35) #[] #[], .func (.func 36) #[] #[], .func (.func 37) #[] #[], .func (.func 38) #[] #[], .func (.func 39) #[] #[], .func (.func 40) #[] #[], .func (.func 41) #[] #[], .func (.func 42) #[] #[], .func (.func 43) #[] #[], .func (.func 44) #[] #[]] : Array Value).all (·.oneCell') = true := by kernel_rfl
    have HI1 := hid hi1
    have HI2 := hid hi2
    have HTH := hid hth
    clear hi1 hi2 hth
    go_wp2_with (refine wpList_store_mid rfl 78 (.tmp 5) (.tmp 33) rfl w'.heap.size 0 #[.nilFunc, .func (.func 32) #[] #[], .func (.func 33) #[] #[], .func (.func 34) #[] #[], .func (.func 35) #[] #[], .func (.func 36) #[] #[], .func (.func 37) #[] #[], .func (.func 38) #[] #[], .func (.func 39) #[] #[], .func (.func 40) #[] #[], .func (.func 41) #[] #[], .func (.func 42) #[] #[], .func (.func 43) #[] #[], .func (.func 44) #[] #[]] rfl rfl HTH.out HI1.out HI2.out ?_)
    have e12f := setCells_cell bz (#[.nilFunc, .func (.func 32) #[] #[], .func (.func 33) #[] #[], .func (.func 34) #[] #[], .func (.func 35) #[] #[], .func (.func 36) #[] #[], .func (.func 37) #[] #[], .func (.func 38) #[] #[], .func (.func 39) #[] #[], .func (.func 40) #[] #[], .func (.func 41) #[] #[], .func (.func 42) #[] #[], .func (.func 43) #[] #[], .func (.func 44) #[] #[]] : Array Value).toList rfl 12 (v := .func (.func 43) #[] #[]) rfl
    have hbz : Below w'.heap.size w' ((w'.alloc (.cells #[.nilFunc, .nilFunc, .nilFunc, .nilFunc, .nilFunc, .nilFunc, .nilFunc, .nilFunc, .nilFunc, .nilFunc, .nilFunc, .nilFunc, .nilFunc, .nilFunc] 78)).setCells w'.heap.size 0 (#[.nilFunc, .func (.func 32) #[] #[], .func (.func 33) #[] #[], .func (.func 34) #[] #[], .func (.func 35) #[] #[], .func (.func 36) #[] #[], .func (.func 37) #[] #[], .func (.func 38) #[] #[], .func (.func 39) #[] #[], .func (.func 40) #[] #[], .func (.func 41) #[] #[], .func (.func 42) #[] #[], .func (.func 43) #[] #[], .func (.func 44) #[] #[]] : Array Value).toList) := (ext_alloc (ext_refl w') _).trans (setCells_below (B := w'.heap.size) (Nat.le_refl _) _ 0 _)
    generalize hW : (w'.alloc (.cells #[.nilFunc, .nilFunc, .nilFunc, .nilFunc, .nilFunc, .nilFunc, .nilFunc, .nilFunc, .nilFunc, .nilFunc, .nilFunc, .nilFunc, .nilFunc, .nilFunc] 78)).setCells w'.heap.size 0 (#[.nilFunc, .func (.func 32) #[] #[], .func (.func 33) #[] #[], .func (.func 34) #[] #[], .func (.func 35) #[] #[], .func (.func 36) #[] #[], .func (.func 37) #[] #[], .func (.func 38) #[] #[], .func (.func 39) #[] #[], .func (.func 40) #[] #[], .func (.func 41) #[] #[], .func (.func 42) #[] #[], .func (.func 43) #[] #[], .func (.func 44) #[] #[]] : Array Value).toList = W2 at *
    have HBZ := hid hbz
    have q2 := later hbz d2
    have q3 := later hbz d3
    have q20 := later hbz d20
    have q21 := later hbz d21
    have q22 := later hbz d22
    have q23 := later hbz d23
    have q24 := later hbz d24
    have q25 := later hbz d25
    have q26 := later hbz d26
    have z2 := hbz.size
    have hc2 : c < W2.heap.size := by omega
    have ht2 : tb < W2.heap.size := by omega
    have hs2 : sb < W2.heap.size := by omega
    have HZZ := hid (show c ≠ w'.heap.size ∧ tb ≠ w'.heap.size ∧ sb ≠ w'.heap.size by omega)
    clear hW hbz bz d2 d3 d20 d21 d22 d23 d24 d25 d26
    have hb2 : Below w.heap.size w W2 := ext_trans HB.out HBZ.out
    have HN1 := hid (show w.heap.size ∉ [c, tb, sb] by have := HWZ.out; simp; omega)
    have HN2 := hid (show w'.heap.size ∉ [c, tb, sb] by have := HZZ.out; simp; omega)
    cases r with
    | none =>
      have HM2 := hid fun W (hW : Below w.heap.size w W) => (HM.out W hW).mono (R' := fun e' w1 => e' = .returned (.bool false) ∧ (w1.cell? ⟨c, 3, none⟩ = some (.slice (some ⟨tb, 0, none⟩) s.ths.length s.ths.length)) ∧ Hid (CkAt w1 c tb sb s ev) ∧ Turn [c, tb, sb] W w1) (fun e' w1 hh => ⟨hh.1, (CkAt.cells hh.2.1).2.2.2.1, hid hh.2.1, hh.2.2⟩)
      clear HM hlen
      go_region_held3 (fun wq => wq.cell? ⟨c, 3, none⟩ = some (.slice (some ⟨tb, 0, none⟩) s.ths.length s.ths.length) ∧ wq.cell? ⟨w.heap.size, 0, none⟩ = some (.int .u8 12) ∧ wq.cell? ⟨w.heap.size, 1, none⟩ = some (.int .i64 (i : Int)) ∧ wq.cell? ⟨w.heap.size, 2, none⟩ = some (.int .i64 tx) ∧ wq.cell? ⟨w.heap.size, 3, none⟩ = some (.int .i64 at_) ∧ wq.cell? ⟨w.heap.size, 4, none⟩ = some (.int .i64 v) ∧ wq.cell? ⟨w.heap.size, 5, none⟩ = some (.int .i64 x) ∧ wq.cell? ⟨w.heap.size, 6, none⟩ = some (.int .u8 why) ∧ wq.cell? ⟨w'.heap.size, 12, none⟩ = some (.func (.func 43) #[] #[]))
        (first | exact ⟨hc3, ht1.cell HN1.out q20, ht1.cell HN1.out q21, ht1.cell HN1.out q22, ht1.cell HN1.out q23, ht1.cell HN1.out q24, ht1.cell HN1.out q25, ht1.cell HN1.out q26, ht1.cell HN2.out e12f⟩ | go_keep)
        ((go_at_call 43; refine (HM2.out _ ?_).mono ?_; (focus repeat (first | assumption | exact ext_refl _ | refine ext_drew ?_ | refine ext_alloc ?_ _ | refine ext_trans ?_ (by assumption))); rintro e' w1 ⟨rfl, hc3, HK1, ht1⟩))
      all_goals (
        have ht2 : Turn [c, tb, sb] w w1 := (Turn.of_below hb2).trans ((Turn.refl _ _).drew.trans ht1)
        have HT2 := hid ht2
        clear ht1 ht2
        go_wp2_with fail
        go_ret
        exact Or.inr ⟨rfl, rfl, HK1.out, HT2.out⟩)
    | some s' =>
      have hl := hlen s' rfl
      have HM2 := hid fun W (hW : Below w.heap.size w W) => (HM.out W hW).mono (R' := fun e' w1 => e' = .returned (.bool true) ∧ (w1.cell? ⟨c, 3, none⟩ = some (.slice (some ⟨tb, 0, none⟩) s.ths.length s.ths.length)) ∧ Hid (CkAt w1 c tb sb s' ev) ∧ Turn [c, tb, sb] W w1) (fun e' w1 hh => ⟨hh.1, by rw [← hl]; exact (CkAt.cells hh.2.1).2.2.2.1, hid hh.2.1, hh.2.2⟩)
      clear HM hlen hl
      go_region_held3 (fun wq => wq.cell? ⟨c, 3, none⟩ = some (.slice (some ⟨tb, 0, none⟩) s.ths.length s.ths.length) ∧ wq.cell? ⟨w.heap.size, 0, none⟩ = some (.int .u8 12) ∧ wq.cell? ⟨w.heap.size, 1, none⟩ = some (.int .i64 (i : Int)) ∧ wq.cell? ⟨w.heap.size, 2, none⟩ = some (.int .i64 tx) ∧ wq.cell? ⟨w.heap.size, 3, none⟩ = some (.int .i64 at_) ∧ wq.cell? ⟨w.heap.size, 4, none⟩ = some (.int .i64 v) ∧ wq.cell? ⟨w.heap.size, 5, none⟩ = some (.int .i64 x) ∧ wq.cell? ⟨w.heap.size, 6, none⟩ = some (.int .u8 why) ∧ wq.cell? ⟨w'.heap.size, 12, none⟩ = some (.func (.func 43) #[] #[]))
        (first | exact ⟨hc3, ht1.cell HN1.out q20, ht1.cell HN1.out q21, ht1.cell HN1.out q22, ht1.cell HN1.out q23, ht1.cell HN1.out q24, ht1.cell HN1.out q25, ht1.cell HN1.out q26, ht1.cell HN2.out e12f⟩ | go_keep)
        ((go_at_call 43; refine (HM2.out _ ?_).mono ?_; (focus repeat (first | assumption | exact ext_refl _ | refine ext_drew ?_ | refine ext_alloc ?_ _ | refine ext_trans ?_ (by assumption))); rintro e' w1 ⟨rfl, hc3, HK1, ht1⟩))
      all_goals (
        have ht2 : Turn [c, tb, sb] w w1 := (Turn.of_below hb2).trans ((Turn.refl _ _).drew.trans ht1)
        have HT2 := hid ht2
        have h2 := (CkAt.cells HK1.out).2.2.1
        have f2 : w1.frozen? ⟨c, 2, none⟩ = false := HK1.out.ck.free 2
        clear ht1 ht2 q2 q3 hb2
        go_wp2_with fail
        go_ret
        exact Or.inl ⟨s', rfl, rfl, CkR.set_ev HK1.out _, HT2.out.setCell (Or.inl (by simp)) _⟩)

set_option maxRecDepth 100000 in
set_option maxHeartbeats 4000000 in
theorem next_13 (h : CkAt w c tb sb s ev) (hK : KindsAt w) (hev : ev < 1048576) (i : Nat) (hi : i < s.ths.length) (tx at_ v x why : Int) (he : EvOk ⟨13, i, tx, at_, v, x, why⟩) (hm : mayE ⟨13, i, tx, at_, v, x, why⟩ s.ths.length s.vars s.sts.length = true) (r : Option Sh) (hlen : ∀ s', r = some s' → s'.ths.length = s.ths.length)
    (HM : Hid (∀ W, Below w.heap.size w W → Calls Tryd.prog 44 #[.pointer (some ⟨c, 0, none⟩), .pointer (some ⟨tb, i * 13, none⟩), .agg #[.int .u8 13, .int .i64 (i : Int), .int .i64 tx, .int .i64 at_, .int .i64 v, .int .i64 x, .int .u8 why]] W (StepP W c tb sb s ev r))) :
    Calls Tryd.prog 23 #[.pointer (some ⟨c, 0, none⟩), .agg #[.int .u8 13, .int .i64 (i : Int), .int .i64 tx, .int .i64 at_, .int .i64 v, .int .i64 x, .int .u8 why]] w (NextP w c tb sb s ev r) := by
  obtain ⟨c0, c1, c2, c3, c4⟩ := h.cells
  have hcl := lt_of_cell c0
  have HH := hid h
  have hne := h.ne
  have htl := h.th.lt
  have hsl := h.st.lt
  have g1 : (ev : Int) < 1048576 := by omega
  have g2 : (0 : Int) ≤ (ev : Int) := by omega
  have g3 : decide ((1048576 : Int) ≤ (ev : Int)) = false := by rw [decide_eq_false_iff_not]; omega
  have g4 : (0 : Int) ≤ (i : Int) := by omega
  have g5 : (i : Int) < (s.ths.length : Int) := by omega
  have hmay := fun W (hW : Below w.heap.size w W) => may_any ⟨13, i, tx, at_, v, x, why⟩ s.ths.length s.vars s.sts.length W he (hK.below hW)
  rw [hm] at hmay
  dsimp only [evA] at hmay
  have HMAY := hid hmay
  clear hmay
  clear h hK he hm hev hi
  go_enter Tryd.func23, Tryd.ntmps23
  go_wp2_with fail
  have b0 := (Blk.new w #[.int .u8 13, .int .i64 (i : Int), .int .i64 tx, .int .i64 at_, .int .i64 v, .int .i64 x, .int .u8 why] 45)
  apply wp_region_vals' [.agg #[.int .u8 13, .int .i64 (i : Int), .int .i64 tx, .int .i64 at_, .int .i64 v, .int .i64 x, .int .u8 why], .pointer (some ⟨c, 0, none⟩), .pointer (some ⟨c, 0, none⟩), .pointer (some ⟨c, 3, none⟩), .slice (some ⟨tb, 0, none⟩) s.ths.length s.ths.length, .int .i64 (s.ths.length : Int), .pointer (some ⟨c, 0, none⟩), .pointer (some ⟨c, 0, none⟩), .pointer (some ⟨c, 0, none⟩), .int .i64 s.vars, .pointer (some ⟨c, 0, none⟩), .pointer (some ⟨c, 0, none⟩), .pointer (some ⟨c, 4, none⟩), .slice (some ⟨sb, 0, none⟩) s.sts.length s.sts.length, .int .i64 (s.sts.length : Int), .bool true, .bool false, .bool false] (fun w' => Below (w.alloc (.cells #[.int .u8 13, .int .i64 (i : Int), .int .i64 tx, .int .i64 at_, .int .i64 v, .int .i64 x, .int .u8 why] 45)).heap.size (w.alloc (.cells #[.int .u8 13, .int .i64 (i : Int), .int .i64 tx, .int .i64 at_, .int .i64 v, .int .i64 x, .int .u8 why] 45)) w')
  focus (simp [putAll, dstOf, Act.put, List.getD]; rfl)
  case hm => kernel_rfl
  case hd => kernel_rfl
  case hb => kernel_rfl
  case hdep => kernel_rfl
  case hsel => kernel_rfl
  case hsz => kernel_rfl
  case h0 => exact ext_drew (ext_refl _)
  case hstep =>
    repeat' (first | exact trivial | (refine And.intro ?_ ?_))
    all_goals (
      intro w' hG
      rw [if_pos (by kernel_rfl)]
      intro K Qp hK
      have d0 := later hG (cell_alloc c0)
      have d3 := later hG (cell_alloc c3)
      have d4 := later hG (cell_alloc c4)
      have d20 := later hG (b0.cell 0 rfl)
      have d21 := later hG (b0.cell 1 rfl)
      have d22 := later hG (b0.cell 2 rfl)
      have d23 := later hG (b0.cell 3 rfl)
      have d24 := later hG (b0.cell 4 rfl)
      have d25 := later hG (b0.cell 5 rfl)
      have d26 := later hG (b0.cell 6 rfl)
      have hb0 : Below w.heap.size w w' := ext_trans (ext_alloc (ext_refl _) _) hG
      have HB0 := hid hb0
      have HGG := hid hG
      clear hb0 hG c0 c1 c2 c3 c4 b0
      go_simp
      first
      | exact hK _ HGG.out
      | (go_wp2_with ((with_reducible refine (HMAY.out _ HB0.out).mono ?_); rintro e' w1 ⟨rfl, hb1⟩)
         first | (with_reducible exact HGG.out) | exact ext_trans HGG.out hb1 | exact hK _ HGG.out | exact hK _ (ext_trans HGG.out hb1)))
  case hdone =>
    intro w' hG
    have hb : Below w.heap.size w w' := ext_trans (ext_alloc (ext_refl _) _) hG
    have d2 := later hb c2
    have d3 := later hb c3
    have d20 := later hG (b0.cell 0 rfl)
    have d21 := later hG (b0.cell 1 rfl)
    have d22 := later hG (b0.cell 2 rfl)
    have d23 := later hG (b0.cell 3 rfl)
    have d24 := later hG (b0.cell 4 rfl)
    have d25 := later hG (b0.cell 5 rfl)
    have d26 := later hG (b0.cell 6 rfl)
    have z1 : w.heap.size < w'.heap.size := by have := hG.size; simp at this; omega
    have hc1 : c < w'.heap.size := by omega
    have ht1 : tb < w'.heap.size := by omega
    have hs1 : sb < w'.heap.size := by omega
    have HB := hid hb
    have HWZ := hid (show c ≠ w.heap.size ∧ tb ≠ w.heap.size ∧ sb ≠ w.heap.size by omega)
    clear hb hG c0 c1 c2 c3 c4 b0
    have bz := Blk.new w' #[.nilFunc, .nilFunc, .nilFunc, .nilFunc, .nilFunc, .nilFunc, .nilFunc, .nilFunc, .nilFunc, .nilFunc, .nilFunc, .nilFunc, .nilFunc, .nilFunc] 78
    have hth := there_blk (n := 14) bz rfl
    have hi1 : (Tryd.prog.info? 78).map (·.size) = some (#[.nilFunc, .func (.func 32) #[] #[], .func (.func 33) #[] #[], .func (.func 34) #[] #[], .func (.func 35) #[] #[], .func (.func 36) #[] #[], .func (.func 37) #[] #[], .func (.func 38) #[] #[], .func (.func 39) #[] #[], .func (.func 40) #[] #[], .func (.func 41) #[] #[], .func (.func 42) #[] #[], .func (.func 43) #[] #[], .func (.func 44) #[] #[]] : Array Value).size := by kernel_rfl
    have hi2 : (#[.nilFunc, .func (.func 32) #[] #[], .func (.func 33) #[] #[], .func (.func 34) #[] #[], .func (.func 35) #[] #[], .func (.func 36) #[] #[], .func (.func 37) #[] #[], .func (.func 38) #[] #[], .func (.func 39) #[] #[], .func (.func 40) #[] #[], .func (.func 41) #[] #[], .func (.func 42) #[] #[], .func (.func 43) #[] #[], .func (.func 44) #[] #[]] : Array Value).all (·.oneCell') = true := by kernel_rfl
    have HI1 := hid hi1
    have HI2 := hid hi2
    have HTH := hid hth
    clear hi1 hi2 hth
    go_wp2_with (refine wpList_store_mid rfl 78 (.tmp 5) (.tmp 33) rfl w'.heap.size 0 #[.nilFunc, .func (.func 32) #[] #[], .func (.func 33) #[] #[], .func (.func 34) #[] #[], .func (.func 35) #[] #[], .func (.func 36) #[] #[], .func (.func 37) #[] #[], .func (.func 38) #[] #[], .func (.func 39) #[] #[], .func (.func 40) #[] #[], .func (.func 41) #[] #[], .func (.func 42) #[] #[], .func (.func 43) #[] #[], .func (.func 44) #[] #[]] rfl rfl HTH.out HI1.out HI2.out ?_)
    have e13f := setCells_cell bz (#[.nilFunc, .func (.func 32) #[] #[], .func (.func 33) #[] #[], .func (.func 34) #[] #[], .func (.func 35) #[] #[], .func (.func 36) #[] #[], .func (.func 37) #[] #[], .func (.func 38) #[] #[], .func (.func 39) #[] #[], .func (.func 40) #[] #[], .func (.func 41) #[] #[], .func (.func 42) #[] #[], .func (.func 43) #[] #[], .func (.func 44) #[] #[]] : Array Value).toList rfl 13 (v := .func (.func 44) #[] #[]) rfl
    have hbz : Below w'.heap.size w' ((w'.alloc (.cells #[.nilFunc, .nilFunc, .nilFunc, .nilFunc, .nilFunc, .nilFunc, .nilFunc, .nilFunc, .nilFunc, .nilFunc, .nilFunc, .nilFunc, .nilFunc, .nilFunc] 78)).setCells w'.heap.size 0 (#[.nilFunc, .func (.func 32) #[] #[], .func (.func 33) #[] #[], .func (.func 34) #[] #[], .func (.func 35) #[] #[], .func (.func 36) #[] #[], .func (.func 37) #[] #[], .func (.func 38) #[] #[], .func (.func 39) #[] #[], .func (.func 40) #[] #[], .func (.func 41) #[] #[], .func (.func 42) #[] #[], .func (.func 43) #[] #[], .func (.func 44) #[] #[]] : Array Value).toList) := (ext_alloc (ext_refl w') _).trans (setCells_below (B := w'.heap.size) (Nat.le_refl _) _ 0 _)
    generalize hW : (w'.alloc (.cells #[.nilFunc, .nilFunc, .nilFunc, .nilFunc, .nilFunc, .nilFunc, .nilFunc, .nilFunc, .nilFunc, .nilFunc, .nilFunc, .nilFunc, .nilFunc, .nilFunc] 78)).setCells w'.heap.size 0 (#[.nilFunc, .func (.func 32) #[] #[], .func (.func 33) #[] #[], .func (.func 34) #[] #[], .func (.func 35) #[] #[], .func (.func 36) #[] #[], .func (.func 37) #[] #[], .func (.func 38) #[] #[], .func (.func 39) #[] #[], .func (.func 40) #[] #[], .func (.func 41) #[] #[], .func (.func 42) #[] #[], .func (.func 43) #[] #[], .func (.func 44) #[] #[]] : Array Value).toList = W2 at *
    have HBZ := hid hbz
    have q2 := later hbz d2
    have q3 := later hbz d3
    have q20 := later hbz d20
    have q21 := later hbz d21
    have q22 := later hbz d22
    have q23 := later hbz d23
    have q24 := later hbz d24
    have q25 := later hbz d25
    have q26 := later hbz d26
    have z2 := hbz.size
    have hc2 : c < W2.heap.size := by omega
    have ht2 : tb < W2.heap.size := by omega
    have hs2 : sb < W2.heap.size := by omega
    have HZZ := hid (show c ≠ w'.heap.size ∧ tb ≠ w'.heap.size ∧ sb ≠ w'.heap.size by omega)
    clear hW hbz bz d2 d3 d20 d21 d22 d23 d24 d25 d26
    have hb2 : Below w.heap.size w W2 := ext_trans HB.out HBZ.out
    have HN1 := hid (show w.heap.size ∉ [c, tb, sb] by have := HWZ.out; simp; omega)
    have HN2 := hid (show w'.heap.size ∉ [c, tb, sb] by have := HZZ.out; simp; omega)
    cases r with
    | none =>
      have HM2 := hid fun W (hW : Below w.heap.size w W) => (HM.out W hW).mono (R' := fun e' w1 => e' = .returned (.bool false) ∧ (w1.cell? ⟨c, 3, none⟩ = some (.slice (some ⟨tb, 0, none⟩) s.ths.length s.ths.length)) ∧ Hid (CkAt w1 c tb sb s ev) ∧ Turn [c, tb, sb] W w1) (fun e' w1 hh => ⟨hh.1, (CkAt.cells hh.2.1).2.2.2.1, hid hh.2.1, hh.2.2⟩)
      clear HM hlen
      go_region_held3 (fun wq => wq.cell? ⟨c, 3, none⟩ = some (.slice (some ⟨tb, 0, none⟩) s.ths.length s.ths.length) ∧ wq.cell? ⟨w.heap.size, 0, none⟩ = some (.int .u8 13) ∧ wq.cell? ⟨w.heap.size, 1, none⟩ = some (.int .i64 (i : Int)) ∧ wq.cell? ⟨w.heap.size, 2, none⟩ = some (.int .i64 tx) ∧ wq.cell? ⟨w.heap.size, 3, none⟩ = some (.int .i64 at_) ∧ wq.cell? ⟨w.heap.size, 4, none⟩ = some (.int .i64 v) ∧ wq.cell? ⟨w.heap.size, 5, none⟩ = some (.int .i64 x) ∧ wq.cell? ⟨w.heap.size, 6, none⟩ = some (.int .u8 why) ∧ wq.cell? ⟨w'.heap.size, 13, none⟩ = some (.func (.func 44) #[] #[]))
        (first | exact ⟨hc3, ht1.cell HN1.out q20, ht1.cell HN1.out q21, ht1.cell HN1.out q22, ht1.cell HN1.out q23, ht1.cell HN1.out q24, ht1.cell HN1.out q25, ht1.cell HN1.out q26, ht1.cell HN2.out e13f⟩ | go_keep)
        ((go_at_call 44; refine (HM2.out _ ?_).mono ?_; (focus repeat (first | assumption | exact ext_refl _ | refine ext_drew ?_ | refine ext_alloc ?_ _ | refine ext_trans ?_ (by assumption))); rintro e' w1 ⟨rfl, hc3, HK1, ht1⟩))
      all_goals (
        have ht2 : Turn [c, tb, sb] w w1 := (Turn.of_below hb2).trans ((Turn.refl _ _).drew.trans ht1)
        have HT2 := hid ht2
        clear ht1 ht2
        go_wp2_with fail
        go_ret
        exact Or.inr ⟨rfl, rfl, HK1.out, HT2.out⟩)
    | some s' =>
      have hl := hlen s' rfl
      have HM2 := hid fun W (hW : Below w.heap.size w W) => (HM.out W hW).mono (R' := fun e' w1 => e' = .returned (.bool true) ∧ (w1.cell? ⟨c, 3, none⟩ = some (.slice (some ⟨tb, 0, none⟩) s.ths.length s.ths.length)) ∧ Hid (CkAt w1 c tb sb s' ev) ∧ Turn [c, tb, sb] W w1) (fun e' w1 hh => ⟨hh.1, by rw [← hl]; exact (CkAt.cells hh.2.1).2.2.2.1, hid hh.2.1, hh.2.2⟩)
      clear HM hlen hl
      go_region_held3 (fun wq => wq.cell? ⟨c, 3, none⟩ = some (.slice (some ⟨tb, 0, none⟩) s.ths.length s.ths.length) ∧ wq.cell? ⟨w.heap.size, 0, none⟩ = some (.int .u8 13) ∧ wq.cell? ⟨w.heap.size, 1, none⟩ = some (.int .i64 (i : Int)) ∧ wq.cell? ⟨w.heap.size, 2, none⟩ = some (.int .i64 tx) ∧ wq.cell? ⟨w.heap.size, 3, none⟩ = some (.int .i64 at_) ∧ wq.cell? ⟨w.heap.size, 4, none⟩ = some (.int .i64 v) ∧ wq.cell? ⟨w.heap.size, 5, none⟩ = some (.int .i64 x) ∧ wq.cell? ⟨w.heap.size, 6, none⟩ = some (.int .u8 why) ∧ wq.cell? ⟨w'.heap.size, 13, none⟩ = some (.func (.func 44) #[] #[]))
        (first | exact ⟨hc3, ht1.cell HN1.out q20, ht1.cell HN1.out q21, ht1.cell HN1.out q22, ht1.cell HN1.out q23, ht1.cell HN1.out q24, ht1.cell HN1.out q25, ht1.cell HN1.out q26, ht1.cell HN2.out e13f⟩ | go_keep)
        ((go_at_call 44; refine (HM2.out _ ?_).mono ?_; (focus repeat (first | assumption | exact ext_refl _ | refine ext_drew ?_ | refine ext_alloc ?_ _ | refine ext_trans ?_ (by assumption))); rintro e' w1 ⟨rfl, hc3, HK1, ht1⟩))
      all_goals (
        have ht2 : Turn [c, tb, sb] w w1 := (Turn.of_below hb2).trans ((Turn.refl _ _).drew.trans ht1)
        have HT2 := hid ht2
        have h2 := (CkAt.cells HK1.out).2.2.1
        have f2 : w1.frozen? ⟨c, 2, none⟩ = false := HK1.out.ck.free 2
        clear ht1 ht2 q2 q3 hb2
        go_wp2_with fail
        go_ret
        exact Or.inl ⟨s', rfl, rfl, CkR.set_ev HK1.out _, HT2.out.setCell (Or.inl (by simp)) _⟩)
end
end Go.Proofs.YtjckgagkkknmnaaDoor
/-
  The checker; walks: Next.
-/
namespace Go.Proofs.YtjckgagkkknmnaaDoor
set_option linter.unusedVariables false
set_option linter.unusedSimpArgs false
open Go Go.RowKit
theorem setTh_len (s : Sh) (i : Int) (t : Th) : (s.setTh i t).ths.length = s.ths.length := by simp [Sh.setTh]
theorem setSt_len (s : Sh) (i : Int) (p : Int × Int) : (s.setSt i p).ths.length = s.ths.length := rfl
theorem doesS_len {s s' : Sh} {t : Th} {e : Ev} (h : doesS s t e = some s') : s'.ths.length = s.ths.length := by
  unfold doesS at h
  by_cases k1 : e.kind = 1
  · rw [if_pos k1] at h
    unfold beginS at h; split at h
    · cases h; simp [Sh.setTh, Sh.setSt]
    · cases h
  rw [if_neg k1] at h
  by_cases k2 : e.kind = 2
  · rw [if_pos k2] at h
    unfold lookS at h; split at h
    · cases h; simp [Sh.setTh, Sh.setSt]
    · cases h
  rw [if_neg k2] at h
  by_cases k3 : e.kind = 3
  · rw [if_pos k3] at h
    unfold loadS at h; split at h
    · cases h; simp [Sh.setTh, Sh.setSt]
    · cases h
  rw [if_neg k3] at h
  by_cases k4 : e.kind = 4
  · rw [if_pos k4] at h
    unfold lockS at h; split at h
    · cases h; simp [Sh.setTh, Sh.setSt]
    · cases h
  rw [if_neg k4] at h
  by_cases k5 : e.kind = 5
  · rw [if_pos k5] at h
    unfold bumpS at h; split at h
    · cases h; simp [Sh.setTh, Sh.setSt]
    · cases h
  rw [if_neg k5] at h
  by_cases k6 : e.kind = 6
  · rw [if_pos k6] at h
    unfold checkS at h; split at h
    · cases h; simp [Sh.setTh, Sh.setSt]
    · cases h
  rw [if_neg k6] at h
  by_cases k7 : e.kind = 7
  · rw [if_pos k7] at h
    unfold commitS at h; split at h
    · cases h; simp [Sh.setTh]
    · split at h
      · cases h; simp [Sh.setTh]
      · cases h
  rw [if_neg k7] at h
  by_cases k8 : e.kind = 8
  · rw [if_pos k8] at h
    unfold storeS at h; split at h
    · cases h; simp [Sh.setTh, Sh.setSt]
    · cases h
  rw [if_neg k8] at h
  by_cases k9 : e.kind = 9
  · rw [if_pos k9] at h
    unfold freedS at h; split at h
    · cases h; simp [Sh.setTh, Sh.setSt]
    · cases h
  rw [if_neg k9] at h
  by_cases k10 : e.kind = 10
  · rw [if_pos k10] at h
    unfold abortS at h; split at h
    · cases h; simp [Sh.setTh, Sh.setSt]
    · cases h
  rw [if_neg k10] at h
  by_cases k11 : e.kind = 11
  · rw [if_pos k11] at h
    unfold undoS at h; split at h
    · cases h; simp [Sh.setTh, Sh.setSt]
    · cases h
  rw [if_neg k11] at h
  by_cases k12 : e.kind = 12
  · rw [if_pos k12] at h
    unfold waitS at h; split at h
    · cases h; simp [Sh.setTh, Sh.setSt]
    · cases h
  rw [if_neg k12] at h
  unfold wakeS at h; split at h
  · cases h; simp [Sh.setTh, Sh.setSt]
  · cases h
section
variable {w : World} {c tb sb : Nat} {s : Sh} {ev : Nat}
set_option maxRecDepth 100000 in
set_option maxHeartbeats 4000000 in
theorem next_nil (e : Ev) (w : World) : Calls Tryd.prog 23 #[.pointer none, evA e] w fun e' w' => e' = .returned (.int .i64 2) ∧ Below w.heap.size w w' := by
  dsimp only [evA]
  go_enter Tryd.func23, Tryd.ntmps23
  go_wp2_with fail
  go_ret
  exact ⟨rfl, by repeat (first | assumption | exact ext_refl _ | refine ext_drew ?_ | refine ext_alloc ?_ _ | refine ext_trans ?_ (by assumption))⟩
theorem next_any (h : CkAt w c tb sb s ev) (hw : Wf s) (hcm : ∀ i, i < s.ths.length → (s.ths.getD i Th.zero).commits ≤ 1048576) (hK : KindsAt w) (hT : TabOk w) (hev : ev < 1048576) (e : Ev) (he : EvOk e) (hm : mayE e s.ths.length s.vars s.sts.length = true) :
    Calls Tryd.prog 23 #[.pointer (some ⟨c, 0, none⟩), evA e] w (NextP w c tb sb s ev (stepS s e)) := by
  have hst : stepS s e = doesS s (s.th e.th) e := by unfold stepS; exact if_pos hm
  rw [hst]
  obtain ⟨hk, hth, htx, hv, hat, hS⟩ := mayE_of hm
  obtain ⟨kind, th, tx, at_, v, x, why⟩ := e
  obtain ⟨i, rfl⟩ := Int.eq_ofNat_of_zero_le hth.1
  obtain ⟨a, rfl⟩ := Int.eq_ofNat_of_zero_le hat.1
  dsimp only at hk hth htx hv hat
  have hi : i < s.ths.length := by omega
  have ht := hw.th i hi
  have hT0 : s.th (i : Int) = s.ths.getD i Th.zero := rfl
  dsimp only
  rw [hT0]
  have hc := hcm i hi
  have hlen : ∀ r, doesS s (s.ths.getD i Th.zero) ⟨kind, i, tx, a, v, x, why⟩ = r → ∀ s', r = some s' → s'.ths.length = s.ths.length := by
    intro r hr s' hs; rw [hs] at hr; exact doesS_len hr
  obtain ⟨t, het⟩ : ∃ t, s.ths.getD i Th.zero = t := ⟨_, rfl⟩
  rw [het] at ht hc hlen ⊢
  obtain ⟨q, hq⟩ := Int.eq_ofNat_of_zero_le ht.st.1
  have hsn : s.n = s.sts.length := rfl
  have hqn : q < s.sts.length := by have := ht.st.2; omega
  have hsz := hw.size
  have haS : kind ≠ 3 → kind ≠ 8 → a < s.sts.length := by
    intro h3 h8
    have := places_S (e := ⟨kind, i, tx, a, v, x, why⟩) (V := s.vars) (S := s.sts.length) h3 h8 (by omega)
    omega
  have hrv := ht.rvb
  have hclk := hw.clk
  have C : ∀ {W : World}, Below w.heap.size w W → CkAt W c tb sb s ev := fun hW => CkR.below h hW
  have hkc : kind = 1 ∨ kind = 2 ∨ kind = 3 ∨ kind = 4 ∨ kind = 5 ∨ kind = 6 ∨ kind = 7 ∨ kind = 8 ∨ kind = 9 ∨ kind = 10 ∨ kind = 11 ∨ kind = 12 ∨ kind = 13 := by omega
  rcases hkc with rfl | rfl | rfl | rfl | rfl | rfl | rfl | rfl | rfl | rfl | rfl | rfl | rfl
  · exact next_1 h hK hev i hi tx a v x why he hm _ (hlen _ rfl) (hid fun W hW => begin_any (C hW) i hi het 1 tx a v x why)
  · exact next_2 h hK hev i hi tx a v x why he hm _ (hlen _ rfl) (hid fun W hW => look_any (C hW) i hi het a (haS (by decide) (by decide)) 2 tx v x why)
  · exact next_3 h hK hev i hi tx a v x why he hm _ (hlen _ rfl) (hid fun W hW => load_any (C hW) i hi het ht.m1 q hq hqn (by omega) a 3 tx v x why)
  · exact next_4 h hK hev i hi tx a v x why he hm _ (hlen _ rfl) (hid fun W hW => lock_any (C hW) i hi het ht.m2 a (haS (by decide) (by decide)) (by have := haS (by decide) (by decide); omega) 4 tx v x why)
  · exact next_5 h hK hev i hi tx a v x why he hm _ (hlen _ rfl) (hid fun W hW => bump_any (C hW) i hi het (by omega) 5 tx a v x why)
  · exact next_6 h hK hev i hi tx a v x why he hm _ (hlen _ rfl) (hid fun W hW => checked_any (C hW) (hT.below hW) i hi het ht.m4 a (haS (by decide) (by decide)) (by have := haS (by decide) (by decide); omega) 6 tx v x why)
  · exact next_7 h hK hev i hi tx a v x why he hm _ (hlen _ rfl) (hid fun W hW => commit_any (C hW) i hi het (by have := ht.com; omega) 7 tx a v x why)
  · exact next_8 h hK hev i hi tx a v x why he hm _ (hlen _ rfl) (hid fun W hW => store_any (C hW) i hi het ht.m2 ht.m3 a ((a : Int) % (s.sts.length : Int)).toNat (by omega) (by omega) (by have := mod_in (a := (a : Int)) (n := (s.sts.length : Int)) (by omega); omega) 8 tx v x why)
  · exact next_9 h hK hev i hi tx a v x why he hm _ (hlen _ rfl) (hid fun W hW => freed_any (C hW) (hT.below hW) i hi het ht.m2 (by have := ht.com; omega) a (haS (by decide) (by decide)) (by have := haS (by decide) (by decide); omega) 9 tx v x why)
  · have hy : 1 ≤ why ∧ why ≤ 6 := by
      unfold mayE at hm
      simp only [Bool.and_eq_true, decide_eq_true_eq] at hm
      exact hm.1.2.2.2.1 trivial
    exact next_10 h hK hev i hi tx a v x why he hm _ (hlen _ rfl) (hid fun W hW => abort_any (C hW) (hT.below hW) i hi het ht.m4 q hq hqn a (haS (by decide) (by decide)) 10 tx v x why hy)
  · exact next_11 h hK hev i hi tx a v x why he hm _ (hlen _ rfl) (hid fun W hW => undo_any (C hW) (hT.below hW) i hi het ht.m2 a (haS (by decide) (by decide)) (by have := haS (by decide) (by decide); omega) 11 tx v x why)
  · exact next_12 h hK hev i hi tx a v x why he hm _ (hlen _ rfl) (hid fun W hW => wait_any (C hW) i hi het 12 tx a v x why)
  · exact next_13 h hK hev i hi tx a v x why he hm _ (hlen _ rfl) (hid fun W hW => wake_any (C hW) i hi het ht.m1 (by omega) 13 tx a v x why)

set_option maxRecDepth 100000 in
set_option maxHeartbeats 4000000 in
theorem next_bad' (h : CkAt w c tb sb s ev) (hK : KindsAt w) (hev : ev < 1048576) (kind th tx at_ v x why : Int) (he : EvOk ⟨kind, th, tx, at_, v, x, why⟩) (hm : mayE ⟨kind, th, tx, at_, v, x, why⟩ s.ths.length s.vars s.sts.length = false) :
    Calls Tryd.prog 23 #[.pointer (some ⟨c, 0, none⟩), .agg #[.int .u8 kind, .int .i64 th, .int .i64 tx, .int .i64 at_, .int .i64 v, .int .i64 x, .int .u8 why]] w (NextP w c tb sb s ev none) := by
  obtain ⟨c0, c1, c2, c3, c4⟩ := h.cells
  have hcl := lt_of_cell c0
  have HH := hid h
  have g1 : (ev : Int) < 1048576 := by omega
  have g2 : (0 : Int) ≤ (ev : Int) := by omega
  have g3 : decide ((1048576 : Int) ≤ (ev : Int)) = false := by rw [decide_eq_false_iff_not]; omega
  have hmay := fun W (hW : Below w.heap.size w W) => may_any ⟨kind, th, tx, at_, v, x, why⟩ s.ths.length s.vars s.sts.length W he (hK.below hW)
  rw [hm] at hmay
  dsimp only [evA] at hmay
  have HMAY := hid hmay
  clear hmay
  clear h hK he hm hev
  go_enter Tryd.func23, Tryd.ntmps23
  go_wp2_with fail
  have b0 := (Blk.new w #[.int .u8 kind, .int .i64 th, .int .i64 tx, .int .i64 at_, .int .i64 v, .int .i64 x, .int .u8 why] 45)
  apply wp_region_vals' [.agg #[.int .u8 kind, .int .i64 th, .int .i64 tx, .int .i64 at_, .int .i64 v, .int .i64 x, .int .u8 why], .pointer (some ⟨c, 0, none⟩), .pointer (some ⟨c, 0, none⟩), .pointer (some ⟨c, 3, none⟩), .slice (some ⟨tb, 0, none⟩) s.ths.length s.ths.length, .int .i64 (s.ths.length : Int), .pointer (some ⟨c, 0, none⟩), .pointer (some ⟨c, 0, none⟩), .pointer (some ⟨c, 0, none⟩), .int .i64 s.vars, .pointer (some ⟨c, 0, none⟩), .pointer (some ⟨c, 0, none⟩), .pointer (some ⟨c, 4, none⟩), .slice (some ⟨sb, 0, none⟩) s.sts.length s.sts.length, .int .i64 (s.sts.length : Int), .bool false, .bool true, .bool true] (fun w' => Below (w.alloc (.cells #[.int .u8 kind, .int .i64 th, .int .i64 tx, .int .i64 at_, .int .i64 v, .int .i64 x, .int .u8 why] 45)).heap.size (w.alloc (.cells #[.int .u8 kind, .int .i64 th, .int .i64 tx, .int .i64 at_, .int .i64 v, .int .i64 x, .int .u8 why] 45)) w')
  focus (simp [putAll, dstOf, Act.put, List.getD]; rfl)
  case hm => kernel_rfl
  case hd => kernel_rfl
  case hb => kernel_rfl
  case hdep => kernel_rfl
  case hsel => kernel_rfl
  case hsz => kernel_rfl
  case h0 => exact ext_drew (ext_refl _)
  case hstep =>
    repeat' (first | exact trivial | (refine And.intro ?_ ?_))
    all_goals (
      intro w' hG
      rw [if_pos (by kernel_rfl)]
      intro K Qp hK
      have d0 := later hG (cell_alloc c0)
      have d3 := later hG (cell_alloc c3)
      have d4 := later hG (cell_alloc c4)
      have d20 := later hG (b0.cell 0 rfl)
      have d21 := later hG (b0.cell 1 rfl)
      have d22 := later hG (b0.cell 2 rfl)
      have d23 := later hG (b0.cell 3 rfl)
      have d24 := later hG (b0.cell 4 rfl)
      have d25 := later hG (b0.cell 5 rfl)
      have d26 := later hG (b0.cell 6 rfl)
      have hb0 : Below w.heap.size w w' := ext_trans (ext_alloc (ext_refl _) _) hG
      have HB0 := hid hb0
      have HGG := hid hG
      clear hb0 hG c0 c1 c2 c3 c4 b0
      go_simp
      first
      | exact hK _ HGG.out
      | (go_wp2_with ((with_reducible refine (HMAY.out _ HB0.out).mono ?_); rintro e' w1 ⟨rfl, hb1⟩)
         first | (with_reducible exact HGG.out) | exact ext_trans HGG.out hb1 | exact hK _ HGG.out | exact hK _ (ext_trans HGG.out hb1)))
  case hdone =>
    intro w' hG
    have hb : Below w.heap.size w w' := ext_trans (ext_alloc (ext_refl _) _) hG
    have HB := hid hb
    clear hb hG c0 c1 c2 c3 c4 b0
    go_wp2_with fail
    go_ret
    exact Or.inr ⟨rfl, rfl, CkR.below HH.out HB.out, Turn.of_below HB.out⟩
theorem next_all (h : CkAt w c tb sb s ev) (hw : Wf s) (hcm : ∀ i, i < s.ths.length → (s.ths.getD i Th.zero).commits ≤ 1048576) (hK : KindsAt w) (hT : TabOk w) (hev : ev < 1048576) (e : Ev) (he : EvOk e) :
    Calls Tryd.prog 23 #[.pointer (some ⟨c, 0, none⟩), evA e] w (NextP w c tb sb s ev (stepS s e)) := by
  cases hm : mayE e s.ths.length s.vars s.sts.length with
  | true => exact next_any h hw hcm hK hT hev e he hm
  | false =>
    have : stepS s e = none := by unfold stepS; have hn : s.n = s.sts.length := rfl; rw [hn, hm]; rfl
    rw [this]
    exact next_bad' h hK hev e.kind e.th e.tx e.at_ e.v e.x e.why he hm
end
end Go.Proofs.YtjckgagkkknmnaaDoor
/-
  Walk: shape.Check, whatever the trace.
-/
namespace Go.Proofs.YtjckgagkkknmnaaDoor
set_option linter.unusedVariables false
set_option linter.unusedSimpArgs false
open Go Go.RowKit
theorem check_all (T V S : Int) (a : Option Addr) (l : List Ev) (cap : Nat) (w : World) (hE : EvsAt w a l) (hK : KindsAt w) (hT : TabOk w) :
    Calls Tryd.prog 12 #[trA T V S a l.length cap] w fun e w' => e = .returned (.tuple #[.int .i64 (checkT T V S l).1, .int .i64 (checkT T V S l).2]) ∧ Below w.heap.size w w' :=
  check_any T V S a l cap w hE hK hT fun W c tb sb ev s h1 h2 h3 h4 h5 h6 e h7 => next_all h1 h2 h3 h4 h5 h6 e h7
end Go.Proofs.YtjckgagkkknmnaaDoor
