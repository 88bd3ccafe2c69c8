/-
  The law ExprTells, walked.
-/
import Derived.Test.YtonckpblbdopmaaDoorExC4
import Derived.Test.YtonckpblbdopmaaDoorExS2
import Derived.Test.YtonckpblbdopmaaDoorExL3
namespace Go.Proofs.YtonckpblbdopmaaDoor
set_option linter.unusedVariables false
open Go Go.RowKit

set_option maxRecDepth 100000 in
set_option maxHeartbeats 4000000 in
theorem exprTells_core (e d : Ex) (n : Int) (lo go : List Int) (w : World) (v0 v1 v2 u0 u1 u2 : Value) (al ag : Option Addr) (capl capg : Nat)
    (hr : RdEx w e v0 v1 v2) (hd : RdEx w d u0 u1 u2) (hlo : RdInts w lo (.slice al lo.length capl)) (hgo : RdInts w go (.slice ag go.length capg)) (ho : OpsAt w)
    (hl1 : lo.length ≤ 100) (hl2 : go.length ≤ 100) (hle : largeS e = false) (hld : largeS d = false) :
    Calls Tryd.prog 9 #[.agg #[v0, v1, v2], .agg #[u0, u1, u2], .int .i64 n, .slice al lo.length capl, .slice ag go.length capg] w
      fun e' w' => e' = .returned (.bool true) ∧ Below w.heap.size w w' := by
  have HR := hid hr
  have HD := hid hd
  obtain ⟨a, cap, rfl, rfl, rfl⟩ := hr.shape
  obtain ⟨a', cap', rfl, rfl, rfl⟩ := hd.shape
  have hA := ext_alloc (ext_alloc (ext_refl w) (.cells #[.int .u8 e.op, .int .i64 e.n, .slice a e.args.length cap] 29)) (.cells #[.int .u8 d.op, .int .i64 d.n, .slice a' d.args.length cap'] 29)
  have HLO := hid hlo
  have HGO := hid hgo
  have HO := hid ho
  have hse := largeS_size hle
  have hal : e.args.length ≤ 400 := by
    cases e with | mk op n args => have := sizeL_length args; simp only [sizeE] at hse; simp only [Ex.args]; omega
  have HEV := hid (fun w v0 v1 v2 vl vg h1 h2 h3 h4 => eval_any lo go e w v0 v1 v2 vl vg h1 h2 h3 h4)
  have HREV := hid (fun w v0 v1 v2 vl vg h1 h2 h3 => reval_any lo go e w v0 v1 v2 vl vg h1 h2 h3)
  have HWH := hid (fun w v0 v1 v2 h => Whole_any e w v0 v1 v2 h)
  have HRWH := hid (fun w v0 v1 v2 h => rWhole_any e w v0 v1 v2 h)
  have HMY := hid (fun w v0 v1 v2 h => may_any e n w v0 v1 v2 h)
  have HRMY := hid (fun w v0 v1 v2 h => rmay_any e n w v0 v1 v2 h)
  have HCT := hid (fun w v0 v1 v2 h => count_any (sizeE e) e w v0 v1 v2 (Nat.le_refl _) h (by omega))
  have HRCT := hid (fun w v0 v1 v2 h => rcount_any (sizeE e) e w v0 v1 v2 (Nat.le_refl _) h (by omega))
  obtain ⟨r, hrr⟩ : ∃ r : Bool, (e = d ↔ r = true) := by
    by_cases h : e = d
    · exact ⟨true, by simp [h]⟩
    · exact ⟨false, by simp [h]⟩
  have HSM := hid (fun w v0 v1 v2 u0 u1 u2 h1 h2 => same_any (sizeE e) e d w v0 v1 v2 u0 u1 u2 (Nat.le_refl _) h1 h2 r hrr)
  have HRSM := hid (fun w v0 v1 v2 u0 u1 u2 h1 h2 => rsame_any (sizeE e) e d w v0 v1 v2 u0 u1 u2 (Nat.le_refl _) h1 h2 r hrr)
  have HRSE := hid (fun w v0 v1 v2 u0 u1 u2 h1 h2 => rsame_any (sizeE e) e e w v0 v1 v2 u0 u1 u2 (Nat.le_refl _) h1 h2 true (by simp))
  have HCPY := hid (fun w v0 v1 v2 h => copy_any (sizeE e) e w v0 v1 v2 (Nat.le_refl _) (by omega) h)
  have HRCPY := hid (fun w v0 v1 v2 h => rcopy_any (sizeE e) e w v0 v1 v2 (Nat.le_refl _) (by omega) h)
  have HLE := hid (fun w v0 v1 v2 h => by have := large_any e w v0 v1 v2 h; rw [hle] at this; exact this)
  have HLD := hid (fun w v0 v1 v2 h => by have := large_any d w v0 v1 v2 h; rw [hld] at this; exact this)
  clear hr hd hlo hgo ho hle hld hrr
  generalize evalS lo go e = VF at *
  obtain ⟨V, F⟩ := VF
  generalize wholeS 6 e = bw at *
  generalize mayS e n = bm at *
  go_enter Tryd.func9, Tryd.ntmps9
  go_wp2_with fail
  refine (HLE.out _ _ _ _ (HR.out.below hA)).mono ?_
  rintro e' w1 ⟨rfl, hb1⟩
  have hc1 := bcell hb1
  go_wp2_with fail
  refine (HLD.out _ _ _ _ (HD.out.below (by repeat (first | assumption | exact ext_refl _ | refine ext_drew ?_ | refine ext_alloc ?_ _ | refine ext_trans ?_ (by assumption))))).mono ?_
  rintro e' w2 ⟨rfl, hb2⟩
  have hE2 := ext_trans (ext_trans hA hb1) hb2
  have q0 : w2.cell? ⟨w.heap.size, 0, none⟩ = some (.int .u8 e.op) := later hb2 (later hb1 (by simp))
  have q1 : w2.cell? ⟨w.heap.size, 1, none⟩ = some (.int .i64 e.n) := later hb2 (later hb1 (by simp))
  have q2 : w2.cell? ⟨w.heap.size, 2, none⟩ = some (.slice a e.args.length cap) := later hb2 (later hb1 (by simp))
  have p0 : w2.cell? ⟨w.heap.size + 1, 0, none⟩ = some (.int .u8 d.op) := later hb2 (later hb1 (by simp))
  have p1 : w2.cell? ⟨w.heap.size + 1, 1, none⟩ = some (.int .i64 d.n) := later hb2 (later hb1 (by simp))
  have p2 : w2.cell? ⟨w.heap.size + 1, 2, none⟩ = some (.slice a' d.args.length cap') := later hb2 (later hb1 (by simp))
  clear hc1 hb1 hb2 hA HLE HLD
  go_wp2_with fail
  refine (HEV.out _ _ _ _ _ _ (HR.out.below hE2) (HLO.out.below hE2) (HGO.out.below hE2) (HO.out.below hE2)).mono ?_
  rintro e' w3 ⟨rfl, hb3⟩
  have q0 := later hb3 q0
  have q1 := later hb3 q1
  have q2 := later hb3 q2
  have p0 := later hb3 p0
  have p1 := later hb3 p1
  have p2 := later hb3 p2
  have hE3 := ext_trans hE2 hb3
  clear hb3 hE2 HEV
  go_wp2_with fail
  refine (HREV.out _ _ _ _ _ _ (HR.out.below hE3) (HLO.out.below hE3) (HGO.out.below hE3)).mono ?_
  rintro e' w4 ⟨rfl, hb4⟩
  have q0 := later hb4 q0
  have q1 := later hb4 q1
  have q2 := later hb4 q2
  have p0 := later hb4 p0
  have p1 := later hb4 p1
  have p2 := later hb4 p2
  have hE4 := ext_trans hE3 hb4
  have hw4 := lt_of_cell q0
  clear hb4 hE3 HREV HLO HGO
  go_wp2_with fail
  refine (HCPY.out _ _ _ _ (HR.out.below hE4)).mono ?_
  rintro e' w5 ⟨a3, c3, rfl, hb5, hcp, hrow⟩
  have q0 := later hb5 q0
  have q1 := later hb5 q1
  have q2 := later hb5 q2
  have p0 := later hb5 p0
  have p1 := later hb5 p1
  have p2 := later hb5 p2
  have hE5 := ext_trans hE4 hb5
  have hs4 := hE4.size
  have hw4l : w.heap.size < w4.heap.size := hw4
  have HCP := hid hcp
  have HROW := hid hrow
  clear hb5 hE4 HCPY hcp hrow
  have x0 := lt_of_cell q0
  have x1 := lt_of_cell p0
  have Q0 := hid q0
  have Q1 := hid q1
  have Q2 := hid q2
  have P0 := hid p0
  have P1 := hid p1
  have P2 := hid p2
  have hbk : Blk (w5.alloc (.cells #[.int .u8 e.op, .int .i64 e.n, .slice a3 e.args.length c3] 29)) w5.heap.size #[.int .u8 e.op, .int .i64 e.n, .slice a3 e.args.length c3] 29 := Blk.new _ _ _
  have HBK := hid hbk
  clear hbk
  go_wp2_with fail
  go_region_held3 (fun w' => w'.cell? ⟨w.heap.size, 0, none⟩ = some (.int .u8 e.op) ∧ w'.cell? ⟨w.heap.size, 1, none⟩ = some (.int .i64 e.n) ∧ w'.cell? ⟨w.heap.size, 2, none⟩ = some (.slice a e.args.length cap) ∧
      w'.cell? ⟨w.heap.size + 1, 0, none⟩ = some (.int .u8 d.op) ∧ w'.cell? ⟨w.heap.size + 1, 1, none⟩ = some (.int .i64 d.n) ∧ w'.cell? ⟨w.heap.size + 1, 2, none⟩ = some (.slice a' d.args.length cap') ∧
      w'.cell? ⟨w5.heap.size, 0, none⟩ = some (.int .u8 e.op) ∧ w'.cell? ⟨w5.heap.size, 1, none⟩ = some (.int .i64 e.n) ∧ w'.cell? ⟨w5.heap.size, 2, none⟩ = some (.slice a3 e.args.length c3))
    (first | go_keep | (go_split_ands; refine ⟨?_, ?_, ?_, ?_, ?_, ?_, ?_, ?_, ?_⟩ <;> exact later (by assumption) (by assumption)))
    (first
      | (have hdone := hb13; go_at_call 29; refine (HRSE.out _ _ _ _ _ _ _ (HCP.out _ (Agree.of_below (by repeat (first | assumption | exact ext_refl _ | refine ext_drew ?_ | refine ext_alloc ?_ _ | refine ext_trans ?_ (by assumption))))) (HR.out.below (by repeat (first | assumption | exact ext_refl _ | refine ext_drew ?_ | refine ext_alloc ?_ _ | refine ext_trans ?_ (by assumption))))).mono ?_; rintro e' w14 ⟨rfl, hb14⟩)
      | (go_at_call 16; refine (HWH.out _ _ _ _ (HR.out.below (by repeat (first | assumption | exact ext_refl _ | refine ext_drew ?_ | refine ext_alloc ?_ _ | refine ext_trans ?_ (by assumption))))).mono ?_; rintro e' w6 ⟨rfl, hb6⟩)
      | (go_at_call 25; refine (HRWH.out _ _ _ _ (HR.out.below (by repeat (first | assumption | exact ext_refl _ | refine ext_drew ?_ | refine ext_alloc ?_ _ | refine ext_trans ?_ (by assumption))))).mono ?_; rintro e' w7 ⟨rfl, hb7⟩)
      | (go_at_call 17; refine (HMY.out _ _ _ _ (HR.out.below (by repeat (first | assumption | exact ext_refl _ | refine ext_drew ?_ | refine ext_alloc ?_ _ | refine ext_trans ?_ (by assumption))))).mono ?_; rintro e' w8 ⟨rfl, hb8⟩)
      | (go_at_call 26; refine (HRMY.out _ _ _ _ (HR.out.below (by repeat (first | assumption | exact ext_refl _ | refine ext_drew ?_ | refine ext_alloc ?_ _ | refine ext_trans ?_ (by assumption))))).mono ?_; rintro e' w9 ⟨rfl, hb9⟩)
      | (go_at_call 22; refine (HCT.out _ _ _ _ (HR.out.below (by repeat (first | assumption | exact ext_refl _ | refine ext_drew ?_ | refine ext_alloc ?_ _ | refine ext_trans ?_ (by assumption))))).mono ?_; rintro e' w10 ⟨rfl, hb10⟩)
      | (go_at_call 27; refine (HRCT.out _ _ _ _ (HR.out.below (by repeat (first | assumption | exact ext_refl _ | refine ext_drew ?_ | refine ext_alloc ?_ _ | refine ext_trans ?_ (by assumption))))).mono ?_; rintro e' w11 ⟨rfl, hb11⟩)
      | (go_at_call 28; refine (HSM.out _ _ _ _ _ _ _ (HR.out.below (by repeat (first | assumption | exact ext_refl _ | refine ext_drew ?_ | refine ext_alloc ?_ _ | refine ext_trans ?_ (by assumption)))) (HD.out.below (by repeat (first | assumption | exact ext_refl _ | refine ext_drew ?_ | refine ext_alloc ?_ _ | refine ext_trans ?_ (by assumption))))).mono ?_; rintro e' w12 ⟨rfl, hb12⟩)
      | (go_at_call 29; refine (HRSM.out _ _ _ _ _ _ _ (HR.out.below (by repeat (first | assumption | exact ext_refl _ | refine ext_drew ?_ | refine ext_alloc ?_ _ | refine ext_trans ?_ (by assumption)))) (HD.out.below (by repeat (first | assumption | exact ext_refl _ | refine ext_drew ?_ | refine ext_alloc ?_ _ | refine ext_trans ?_ (by assumption))))).mono ?_; rintro e' w13 ⟨rfl, hb13⟩))
  have HB14 : Hid (Blk w14 w5.heap.size #[.int .u8 e.op, .int .i64 e.n, .slice a3 e.args.length c3] 29) := hid (Blk.below (by repeat (first | assumption | exact ext_refl _ | refine ext_drew ?_ | refine ext_alloc ?_ _ | refine ext_trans ?_ (by assumption))) HBK.out)
  have hE514 : Below w5.heap.size w5 w14 := by repeat (first | assumption | exact ext_refl _ | refine ext_drew ?_ | refine ext_alloc ?_ _ | refine ext_trans ?_ (by assumption))
  have hE14 : Below w.heap.size w w14 := ext_trans hE5 hE514
  clear hb6 hb7 hb8 hb9 hb10 hb11 hb12 hb13 hb14 HBK HWH HRWH HMY HRMY HCT HRCT HSM HRSM
  have q0 := later hE514 Q0.out
  have q1 := later hE514 Q1.out
  have q2 := later hE514 Q2.out
  go_wp2_with fail
  refine (HRCPY.out _ _ _ _ (HR.out.below hE14)).mono ?_
  rintro e' w15 ⟨a4, c4, rfl, hb15, hkp⟩
  have q0 := later hb15 q0
  have q1 := later hb15 q1
  have q2 := later hb15 q2
  have HB15 := hid (Blk.below hb15 HB14.out)
  have s2 := HB15.out.cell 2 (v := .slice a3 e.args.length c3) rfl
  have HKP := hid hkp
  have hE515 := ext_trans hE514 hb15
  have hE15 := ext_trans hE14 hb15
  have y0 := lt_of_cell q0
  have y1 := lt_of_cell s2
  have HN15 : Hid (Blk (w15.alloc (.cells #[.int .u8 e.op, .int .i64 e.n, .slice a4 e.args.length c4] 29)) w15.heap.size #[.int .u8 e.op, .int .i64 e.n, .slice a4 e.args.length c4] 29) := hid (Blk.new _ _ _)
  have hE16 := ext_alloc (ext_refl w15) (.cells #[.int .u8 e.op, .int .i64 e.n, .slice a4 e.args.length c4] 29)
  clear hkp
  go_wp2_with fail
  go_loopw [17] (fun i wr => ∃ k : Nat, k ≤ e.args.length ∧ i = .int .i64 k ∧ wr.cell? ⟨w5.heap.size, 2, none⟩ = some (.slice a3 e.args.length c3) ∧ Hid (Below w.heap.size w wr ∧
      (∀ b, (∀ g, e.args ≠ [] → a3 = some ⟨g, 0, none⟩ → b ≠ g) → wr.heap[b]? = (w15.alloc (.cells #[.int .u8 e.op, .int .i64 e.n, .slice a4 e.args.length c4] 29)).heap[b]?) ∧
      (e.args ≠ [] → ∃ g cells, a3 = some ⟨g, 0, none⟩ ∧ w4.heap.size ≤ g ∧ g < w5.heap.size ∧ Blk wr g cells 29 ∧ e.args.length * 3 ≤ cells.size))) (fun i _ => e.args.length - (intOf i).toNat)
  case atStart =>
    refine ⟨0, Nat.zero_le _, rfl, later hE16 s2, ext_trans hE15 hE16, fun b _ => rfl, fun hne => ?_⟩
    obtain ⟨g, cells, h1, h2, h3, h4⟩ := HROW.out hne
    exact ⟨g, cells, h1, h2, h3.lt, Blk.below hE16 (Blk.below hE515 h3), h4⟩
  case round =>
    obtain ⟨k, hk, rfl, s2', HREL⟩ := hrel
    by_cases hlt : k < e.args.length
    · have hne : e.args ≠ [] := by intro h; rw [h] at hlt; simp at hlt
      obtain ⟨hbw, hheap, hrow⟩ := HREL.out
      obtain ⟨g, cells, rfl, hg1, hg2, hgb, hgs⟩ := hrow hne
      have hk3 : k * 3 < cells.size := by omega
      have d0 := hgb.cell (k * 3) (v := cells[k * 3]) (by simp [hk3])
      have d1 := hgb.free (k * 3)
      have HNE : Hid (w.heap.size ≤ g) := hid (Nat.le_trans (by assumption) hg1)
      have HST : Hid (Blk (wr.setCell ⟨g, k * 3, none⟩ (.int .u8 99)) g (cells.setIfInBounds (k * 3) (.int .u8 99)) 29) := hid (hgb.set (k * 3) _)
      have HHP := hid hheap
      clear hheap hrow
      go_wp2_with fail
      go_roundw
      case rel =>
        refine ⟨k + 1, hlt, by go_num, cell_set s2' _ _ (by dsimp only; omega), ext_set hbw (by dsimp only; exact HNE.out) _, fun b hb => ?_, fun _ => ⟨g, _, rfl, hg1, hg2, HST.out, by simpa using hgs⟩⟩
        rw [Below.heap_setCell _ _ _ _ (by dsimp only; exact hb g hne rfl)]
        exact HHP.out b hb
      case measure => simp [intOf]; omega
    · obtain rfl : k = e.args.length := by omega
      obtain ⟨hbw, hheap, hrow⟩ := HREL.out
      have hsz := hE515.size
      have hsz14 := hE514.size
      have hne5 : ∀ b, (b < w4.heap.size ∨ w5.heap.size ≤ b) → wr.heap[b]? = (w15.alloc (.cells #[.int .u8 e.op, .int .i64 e.n, .slice a4 e.args.length c4] 29)).heap[b]? := fun b hb => hheap b (fun g hne he => by
        obtain ⟨g', cells, h1, h2, h3, -⟩ := hrow hne
        rw [h1] at he
        obtain rfl : g' = g := by simpa using he
        omega)
      have hwl : w.heap.size < w4.heap.size := hw4l
      have f0 := (World.cell?_of_block (a := ⟨w.heap.size, 0, none⟩) (hne5 _ (Or.inl hwl))).trans (later hE16 q0)
      have f1 := (World.cell?_of_block (a := ⟨w.heap.size, 1, none⟩) (hne5 _ (Or.inl hwl))).trans (later hE16 q1)
      have f2 := (World.cell?_of_block (a := ⟨w.heap.size, 2, none⟩) (hne5 _ (Or.inl hwl))).trans (later hE16 q2)
      have hn : Blk wr w15.heap.size #[.int .u8 e.op, .int .i64 e.n, .slice a4 e.args.length c4] 29 := (hne5 _ (Or.inr hsz)).trans HN15.out
      have k0 := hn.cell 0 (v := .int .u8 e.op) rfl
      have k1 := hn.cell 1 (v := .int .i64 e.n) rfl
      have k2 := hn.cell 2 (v := .slice a4 e.args.length c4) rfl
      have HAG : Hid (Agree w14.heap.size w15.heap.size w15 wr) := hid (fun b h1 h2 => (hne5 b (Or.inr (by omega))).trans (hE16.block b h2))
      clear hheap hrow hne5 hn
      go_wp2_with fail
      refine (HRSE.out _ _ _ _ _ _ _ (HR.out.below hbw) (HKP.out _ HAG.out)).mono ?_
      rintro e' w17 ⟨rfl, hb17⟩
      have hE17 := ext_trans hbw hb17
      go_wp2_with fail
      refine (awake_any _ (HO.out.below hE17)).mono ?_
      rintro e' w18 ⟨rfl, hb18⟩
      go_wp2_with fail
      go_ret
      exact ⟨rfl, ext_trans hE17 hb18⟩
end Go.Proofs.YtonckpblbdopmaaDoor
