/-
  Walks: the writer of a version.
-/
import Derived.Test.YtcdgfnocjnampaaSlW1
import Derived.WalkKit
import Derived.Deep.DeepCutAuto
import Derived.Deep.CutBlock
import Derived.BigQuiet
namespace Go.Proofs.Ytcdgfnocjnampaa
set_option linter.unusedVariables false
set_option linter.unusedSimpArgs false
set_option linter.unusedVariables false
open Go Go.RowKit
theorem writerK_ge (L : List Att) (v most : Int) (k : Nat) : -1 ≤ writerK L v most k ∧ writerK L v most k < k ∨ writerK L v most k = -1 := by
  rcases writerK_is L v most k with ⟨h, _⟩ | ⟨h1, h2, _⟩
  · exact .inr h
  · exact .inl ⟨by omega, h2⟩
theorem writerK_step (L : List Att) (v most : Int) (k : Nat) (h : k < L.length) : writerK L v most (k + 1) = if ((decide (0 < L[k].wv) && decide (L[k].wv ≤ most) && (L[k].writes.any fun p => p.1 == v)) && (decide (writerK L v most k < 0) || decide ((L.getD (writerK L v most k).toNat Att.zero).wv < L[k].wv))) = true then (k : Int) else writerK L v most k := by
  show (if (candB (L.getD k Att.zero) v most && _) = true then _ else _) = _
  rw [show L.getD k Att.zero = L[k] by rw [List.getD_eq_getElem?_getD, List.getElem?_eq_getElem h]; rfl]
  rfl
set_option maxRecDepth 100000 in
set_option maxHeartbeats 4000000 in
theorem writer_any (L : List Att) (v most : Int) (w : World) (sv : Value) (hr : RdAtts w L sv) :
    Calls Try.prog 13 #[sv, .int .i64 v, .int .i64 most] w fun e' w' => e' = .returned (.int .i64 (writerL L v most)) ∧ Below w.heap.size w w' := by
  obtain ⟨a, cap, rfl, hlen, hx⟩ := hr
  have HX := hid hx; clear hx
  go_enter Try.func13, Try.ntmps13
  go_wp2_with fail
  go_loopw [7, 13] (fun n i wr => ∃ k : Nat, k ≤ L.length ∧ i = .int .i64 k ∧ n = .int .i64 (writerK L v most k) ∧ Hid (Below w.heap.size w wr) ∧ wr.cell? ⟨w.heap.size, 0, none⟩ = some (.int .i64 v)) (fun _ i _ => L.length - (intOf i).toNat)
  case atStart => exact ⟨0, Nat.zero_le _, rfl, rfl, hid (ext_alloc (ext_refl _) _), (Blk.new _ _ _).cell 0 rfl⟩
  case round =>
    obtain ⟨k, hk, rfl, rfl, HB, hv⟩ := hrel
    by_cases hlt : k < L.length
    · obtain ⟨b, off, rfl, hrd⟩ := HX.out (by intro h; subst h; simp at hlt)
      obtain ⟨r, u, hc⟩ := hrd k hlt
      have hc := hc.below HB.out
      obtain ⟨ar, cr, hr⟩ := hc.reads.shape
      obtain ⟨au, cu, hu⟩ := hc.writes.shape
      have HSt := hid (writerK_step L v most k hlt)
      have hge := writerK_ge L v most k
      subst hr hu
      have d0 := hc.c0
      have d1 := hc.c1
      have d2 := hc.c2
      have d3 := hc.c3
      have d4 := hc.c4
      have d5 := hc.c5
      have d6 := hc.c6
      have d7 := hc.c7
      have d8 := hc.c8
      have hbl := lt_of_cell d0
      have HW := hid hc.writes
      have HLT := hid hlt
      have HV := hid hv
      -- the best one up to here
      have HBest : Hid (∀ j : Nat, j < L.length → wr.cell? ⟨b, off + j * 9 + 5, none⟩ = some (.int .i64 (L.getD j Att.zero).wv)) := hid (fun j hj => by
        obtain ⟨r', u', hc'⟩ := hrd j hj
        have := (hc'.below HB.out).c5
        rw [List.getD_eq_getElem?_getD, List.getElem?_eq_getElem hj]
        exact this)
      generalize writerK L v most k = best at *
      clear hc hrd hv
      go_wp2_with fail
      have hA : Below wr.heap.size wr (wr.alloc (.cells #[.int .i64 L[k].th, .int .i64 L[k].tx, .int .i64 L[k].from_, .int .i64 L[k].to_, .int .i64 L[k].rv, .int .i64 L[k].wv, .bool L[k].com, .slice ar L[k].reads.length cr, .slice au L[k].writes.length cu] 29)) := ext_alloc (ext_refl _) _
      have hblk := Blk.new wr #[.int .i64 L[k].th, .int .i64 L[k].tx, .int .i64 L[k].from_, .int .i64 L[k].to_, .int .i64 L[k].rv, .int .i64 L[k].wv, .bool L[k].com, .slice ar L[k].reads.length cr, .slice au L[k].writes.length cu] 29
      refine (contains_any L[k].writes v w.heap.size _ _ (HW.out.below hA) (later hA HV.out)).mono ?_
      rintro e' w1 ⟨rfl, hb1⟩
      have hA1 := ext_trans hA hb1
      have f5 := (hblk.below hb1).cell 5 (v := .int .i64 L[k].wv) rfl
      have HB1 := hid (ext_trans HB.out hA1)
      have HV1 := hid (later hA1 HV.out)
      have HBest1 : Hid (∀ j : Nat, j < L.length → w1.cell? ⟨b, off + j * 9 + 5, none⟩ = some (.int .i64 (L.getD j Att.zero).wv)) := hid (fun j hj => later hA1 (HBest.out j hj))
      have hlw := lt_of_cell f5
      have hbl1 : b < w1.heap.size := Nat.lt_of_lt_of_le hbl hA1.size
      clear d0 d1 d2 d3 d4 d5 d6 d7 d8 hblk hA hb1 hA1 HBest HV HB hbl
      generalize hX : L[k].wv = X at *
      generalize (L[k].writes.any fun p => p.1 == v) = q at *
      by_cases h1 : (0 : Int) < X
      · by_cases h2 : X ≤ most
        · cases q
          · go_wp2_with fail
            go_quiet (fail)
            go_wp2_with fail
            go_roundw
            case rel => exact ⟨k + 1, HLT.out, by go_num, by rw [HSt.out]; simp, hid (ext_drewN HB1.out _), HV1.out⟩
            case measure => have := HLT.out; simp [intOf]; omega
          · by_cases h3 : best < 0
            · go_wp2_with fail
              go_quiet (fail)
              go_wp2_with fail
              go_roundw
              case rel => exact ⟨k + 1, HLT.out, by go_num, by rw [HSt.out]; simp [h1, h2, h3], hid (ext_drewN HB1.out _), HV1.out⟩
              case measure => have := HLT.out; simp [intOf]; omega
            · obtain ⟨j, rfl⟩ : ∃ j : Nat, best = (j : Int) := ⟨best.toNat, by omega⟩
              have hj : j < L.length := by omega
              have j1 : decide ((j : Int) < (L.length : Int)) = true := by rw [decide_eq_true_iff]; omega
              have j2 : (0 : Int) ≤ (j : Int) := by omega
              have j3 : ((j : Int) < (L.length : Int)) := by omega
              have g5 := HBest1.out j hj
              have HS2 := hid (HSt.out)
              rw [show ((j : Int)).toNat = j from Int.toNat_natCast j] at HS2
              generalize (L.getD j Att.zero).wv = Y at *
              have h3' : decide ((j : Int) < 0) = false := by rw [decide_eq_false_iff_not]; omega
              by_cases h4 : Y < X
              · go_wp2_with fail
                go_quiet (fail)
                go_wp2_with fail
                go_roundw
                case rel => exact ⟨k + 1, HLT.out, by go_num, by rw [HS2.out]; simp [h1, h2, h4], hid (ext_drewN HB1.out _), HV1.out⟩
                case measure => have := HLT.out; simp [intOf]; omega
              · have h4' : decide (Y < X) = false := by rw [decide_eq_false_iff_not]; exact h4
                go_wp2_with fail
                go_quiet (fail)
                go_wp2_with fail
                go_roundw
                case rel => exact ⟨k + 1, HLT.out, by go_num, by rw [HS2.out]; simp [h4', h3'], hid (ext_drewN HB1.out _), HV1.out⟩
                case measure => have := HLT.out; simp [intOf]; omega
        · have h2' : decide (X ≤ most) = false := by rw [decide_eq_false_iff_not]; exact h2
          go_wp2_with fail
          go_quiet (fail)
          go_wp2_with fail
          go_roundw
          case rel => exact ⟨k + 1, HLT.out, by go_num, by rw [HSt.out]; simp [h2'], hid (ext_drewN HB1.out _), HV1.out⟩
          case measure => have := HLT.out; simp [intOf]; omega
      · have h1' : decide ((0 : Int) < X) = false := by rw [decide_eq_false_iff_not]; exact h1
        go_wp2_with fail
        go_quiet (fail)
        go_wp2_with fail
        go_roundw
        case rel => exact ⟨k + 1, HLT.out, by go_num, by rw [HSt.out]; simp [h1'], hid (ext_drewN HB1.out _), HV1.out⟩
        case measure => have := HLT.out; simp [intOf]; omega
    · obtain rfl : k = L.length := by omega
      go_wp2_with fail
      go_ret
      exact ⟨rfl, HB.out⟩
end Go.Proofs.Ytcdgfnocjnampaa
