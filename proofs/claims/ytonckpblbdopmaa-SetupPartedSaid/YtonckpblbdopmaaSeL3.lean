/-
  Walks: SetupParted, the walk.
-/
import Derived.Test.YtonckpblbdopmaaSeL2
import Derived.Deep.DeepCutAuto
import Derived.Deep.CutBlock
namespace Go.Proofs.Ytonckpblbdopmaa
set_option linter.unusedVariables false
open Go Go.RowKit

theorem rdNat_get {w : World} {l : List Nat} {v : Value} (h : RdInts w (l.map fun x : Nat => (x : Int)) v) : ∃ a cap, v = .slice a l.length cap ∧ (l ≠ [] → ∃ b off, a = some ⟨b, off, none⟩ ∧ ∀ k (h : k < l.length), w.cell? ⟨b, off + k, none⟩ = some (.int .i64 (l[k] : Int))) := by
  obtain ⟨a, cap, rfl, -, -, h2⟩ := h
  refine ⟨a, cap, by simp, fun hne => ?_⟩
  obtain ⟨b, off, h3, h4⟩ := h2 (by simpa using hne)
  exact ⟨b, off, h3, fun k hk => by have := h4 k (by simpa using hk); simpa using this⟩

theorem drewN_heap (w : World) (n : Nat) : (w.drewN n).heap = w.heap := by
  induction n with
  | zero => rfl
  | succ n ih => exact ih

set_option maxRecDepth 100000 in
set_option maxHeartbeats 4000000 in
theorem setupParted_walk (t0 n0 : Int) (w : World) : Calls Try.prog 9 #[.int .i64 t0, .int .i64 n0] w fun e w' => e = .returned (.bool true) ∧ Below w.heap.size w w' := by
  by_cases hbad : t0 < 1 ∨ n0 < 1 ∨ 200 < t0 ∨ 500 < n0
  · have hc : t0 < 1 ∨ (decide (t0 < 1) = false ∧ n0 < 1) ∨ (decide (t0 < 1) = false ∧ decide (n0 < 1) = false ∧ 200 < t0) ∨ (decide (t0 < 1) = false ∧ decide (n0 < 1) = false ∧ decide (200 < t0) = false ∧ 500 < n0) := by
      simp only [decide_eq_false_iff_not]; omega
    clear hbad
    rcases hc with h | ⟨h1, h2⟩ | ⟨h1, h2, h3⟩ | ⟨h1, h2, h3, h4⟩
    all_goals
      go_enter Try.func9, Try.ntmps9
      go_wp2_with fail
      refine (sawake_any _).mono ?_
      rintro e' w1 ⟨rfl, hb1⟩
      go_wp2_with fail
      go_ret
      exact ⟨rfl, hb1⟩
  obtain ⟨T, rfl⟩ := Int.eq_ofNat_of_zero_le (show 0 ≤ t0 by omega)
  obtain ⟨N, rfl⟩ := Int.eq_ofNat_of_zero_le (show 0 ≤ n0 by omega)
  have d1 : decide ((T : Int) < 1) = false := by rw [decide_eq_false_iff_not]; omega
  have d2 : decide ((N : Int) < 1) = false := by rw [decide_eq_false_iff_not]; omega
  have d3 : decide ((200 : Int) < (T : Int)) = false := by rw [decide_eq_false_iff_not]; omega
  have d4 : decide ((500 : Int) < (N : Int)) = false := by rw [decide_eq_false_iff_not]; omega
  have HTN : Hid (1 ≤ T ∧ T ≤ 200 ∧ 1 ≤ N ∧ N ≤ 500) := hid (by omega)
  have hmk := fun W => run_mkints W N (by omega)
  have hT0 : (1 : Int) ≤ (T : Int) := by omega
  have hN0 : (1 : Int) ≤ (N : Int) := by omega
  have hT1 : (T : Int) ≤ 200 := by omega
  have hN1 : (N : Int) ≤ 500 := by omega
  clear hbad
  go_enter Try.func9, Try.ntmps9
  go_wp2_with fail
  refine (sawake_any _).mono ?_
  rintro e' w1 ⟨rfl, hb1⟩
  go_upto_block 0 with (fail)
  have hA := ext_alloc hb1 (.cells (rowI (List.replicate N 0)) 3)
  have hB0 : Hid (Blk (w1.alloc (.cells (rowI (List.replicate N 0)) 3)) w1.heap.size (rowI (metL T N 0 0)) 3) := hid (by rw [metL_0]; exact Blk.new _ _ _)
  have hw1 := hb1.size
  generalize w1.heap.size = B at *
  clear hmk hb1
  go_cut [] (fun wx => Hid (Blk wx B (rowI (metL T N T 0)) 3) ∧ Below w.heap.size w wx)
  case first =>
    go_wp2_with fail
    go_loopw [6] (fun i wr => ∃ i0 : Nat, i0 ≤ T ∧ i = .int .i64 i0 ∧ Hid (Blk wr B (rowI (metL T N i0 0)) 3) ∧ Below w.heap.size w wr) (fun i _ => T - (intOf i).toNat)
    case atStart => exact ⟨0, by omega, rfl, hB0, hA⟩
    case round =>
      obtain ⟨i, hi, rfl, HB, hb⟩ := hrel
      clear hB0 hA
      by_cases hlt : i < T
      · have hBlt := HB.out.lt
        go_wp2_with fail
        refine (vars_ok i T N _ hlt (by omega) (by omega) (by omega)).mono ?_
        rintro e' w2 ⟨v, rfl, hv, hown, hb2⟩
        obtain ⟨a, cap, rfl, hcells⟩ := rdNat_get hv
        have HC := hid hcells
        have HO := hid hown
        have HB2 := hid (HB.out.below hb2)
        have hE2 := ext_trans hb hb2
        have hLm : ∀ k (h : k < (varL i T N).length), (varL i T N)[k] < N ∧ (varL i T N)[k] % T = i := fun k h => varL_mem.1 (List.getElem_mem h)
        have HLM := hid hLm
        have hll := varL_len i T N
        have HST := hid (fun k (h : k < (varL i T N).length) => metL_step (n := N) hlt h)
        have HSO := hid (fun j k (h1 : j < k) (h2 : k < (varL i T N).length) => varL_get_lt h1 h2)
        have HNX := hid (metL_next (t := T) (n := N) (i := i))
        clear hv hcells hown hLm HB hb hb2
        obtain ⟨wo, hwo⟩ : ∃ wo : World, wo = w2 := ⟨_, rfl⟩
        have HWO := hid hwo
        clear hwo
        go_wp2_with fail
        go_loopw [9] (fun k wr2 => ∃ k0 : Nat, k0 ≤ (varL i T N).length ∧ k = .int .i64 k0 ∧ Hid (Blk wr2 B (rowI (metL T N i k0)) 3) ∧ Hid (∀ b, b ≠ B → b < w2.heap.size → wr2.heap[b]? = w2.heap[b]?) ∧ Below w.heap.size w wr2) (fun k _ => (varL i T N).length - (intOf k).toNat)
        case atStart => exact ⟨0, by omega, rfl, HB2, hid (fun _ _ _ => rfl), hE2⟩
        case round =>
          obtain ⟨k, hk, rfl, HB3, HFR, hb3⟩ := hrel
          clear hE2
          by_cases hlt2 : k < (varL i T N).length
          · have hne : varL i T N ≠ [] := by intro h; rw [h] at hlt2; simp at hlt2
            obtain ⟨g, off, rfl, hc⟩ := HC.out hne
            have hgl := lt_of_cell (hc k hlt2)
            have hgB : g ≠ B := by have := HO.out _ _ _ rfl; dsimp only at this; omega
            obtain ⟨x, hx⟩ : ∃ x, x = (varL i T N)[k] := ⟨_, rfl⟩
            obtain ⟨hxN, hxi⟩ := HLM.out k hlt2
            rw [← hx] at hxN hxi
            have cx := (World.cell?_of_block (w := w2) (a := ⟨g, off + k, none⟩) (HFR.out g hgB hgl)).trans (hc k hlt2)
            rw [← hx] at cx
            have hm0 := (HST.out k hlt2).1
            have hms := (HST.out k hlt2).2
            rw [← hx] at hm0 hms
            have cm := HB3.out.cell x (v := .int .i64 0) (by
              have hl : x < (metL T N i k).length := by rw [metL_len]; exact hxN
              rw [rowI_at _ _ hl]
              rw [List.getD_eq_getElem?_getD, List.getElem?_eq_getElem hl] at hm0
              have h2 : (metL T N i k)[x] = 0 := hm0
              rw [h2]; rfl)
            have fm := HB3.out.free x
            have HSET : Hid (∀ nq, Blk ((wr.drewN nq).setCell ⟨B, x, none⟩ (.int .i64 1)) B (rowI (metL T N i (k + 1))) 3) := hid (fun nq => by
              have h := (show Blk (wr.drewN nq) B (rowI (metL T N i k)) 3 by unfold Blk; rw [drewN_heap]; exact HB3.out).set x (.int .i64 ((1 : Nat) : Int))
              rw [rowI_set, ← hms] at h
              exact h)
            have HSS : Hid (stripeS (x : Int) (T : Int) = ((i : Int), 0)) := hid (by unfold stripeS; rw [if_neg (by omega)]; rw [← hxi]; simp)
            have hx0 : (0 : Int) ≤ (x : Int) := by omega
            have hx1 : (x : Int) < (N : Int) := by omega
            have hxd : decide ((N : Int) ≤ (x : Int)) = false := by rw [decide_eq_false_iff_not]; omega
            have hxdn : decide (N ≤ x) = false := by rw [decide_eq_false_iff_not]; omega
            have hxd0 : decide ((x : Int) < 0) = false := by rw [decide_eq_false_iff_not]; omega
            have HXI := hid hxi
            have HHX := hid hx
            have HB3l := HB3.out.lt
            have hkl : (k : Int) < ((varL i T N).length : Int) := by omega
            have hk0 : (0 : Int) ≤ (k : Int) := by omega
            clear hm0 hms hxi hx
            by_cases hkp : 0 < k
            · obtain ⟨y, hy⟩ : ∃ y, y = (varL i T N)[k - 1]'(by omega) := ⟨_, rfl⟩
              have cy := (World.cell?_of_block (w := w2) (a := ⟨g, off + (k - 1), none⟩) (HFR.out g hgB hgl)).trans (hc (k - 1) (by omega))
              rw [← hy] at cy
              have hyx : y < x := by rw [hy, HHX.out]; exact HSO.out (k - 1) k (by omega) hlt2
              have hyd : decide ((x : Int) ≤ (y : Int)) = false := by rw [decide_eq_false_iff_not]; omega
              have hydn : decide (x ≤ y) = false := by rw [decide_eq_false_iff_not]; omega
              obtain ⟨j, hj⟩ : ∃ j, j = k - 1 := ⟨_, rfl⟩
              rw [← hj] at cy
              have hwk : IntKind.i64.wrap ((k : Int) - 1) = (j : Int) := by rw [IntKind.wrap_i64]; omega
              have hjl : (j : Int) < ((varL i T N).length : Int) := by omega
              have hj0 : (0 : Int) ≤ (j : Int) := by omega
              have hkp2 : (0 : Int) < (k : Int) := by omega
              have HY := hid hy
              clear hc hy hj
              go_wp2_with fail
              go_quiet (fail)
              go_wp2_with fail
              refine (stripe_any x T _ (by omega) (by omega)).mono ?_
              rw [HSS.out]
              rintro e' w5 ⟨rfl, rfl⟩
              go_wp2_with fail
              go_roundw
              case rel => exact ⟨k + 1, hlt2, by go_num, HSET.out _, hid (fun b hbB hbl => by rw [Below.heap_setCell _ _ _ _ (by dsimp only; exact hbB), drewN_heap]; exact HFR.out b hbB hbl), ext_set (ext_drewN hb3 _) (by dsimp only; exact hw1) _⟩
              case measure => simp [intOf]; omega
            · have hkp2 : ¬ ((0 : Int) < (k : Int)) := by omega
              have hkp3 : decide (0 < k) = false := by rw [decide_eq_false_iff_not]; exact hkp
              clear hc
              go_wp2_with fail
              go_quiet (fail)
              go_wp2_with fail
              refine (stripe_any x T _ (by omega) (by omega)).mono ?_
              rw [HSS.out]
              rintro e' w5 ⟨rfl, rfl⟩
              go_wp2_with fail
              go_roundw
              case rel => exact ⟨k + 1, hlt2, by go_num, HSET.out _, hid (fun b hbB hbl => by rw [Below.heap_setCell _ _ _ _ (by dsimp only; exact hbB), drewN_heap]; exact HFR.out b hbB hbl), ext_set (ext_drewN hb3 _) (by dsimp only; exact hw1) _⟩
              case measure => simp [intOf]; omega
          · obtain rfl : k = (varL i T N).length := by omega
            have hB4 := HB3.out
            rw [HNX.out] at hB4
            have HB4 := hid hB4
            clear hB4
            go_wp2_with fail
            go_roundw
            case rel => exact ⟨i + 1, by omega, by go_num, HB4, hb3⟩
            case measure => simp [intOf]; omega
      · obtain rfl : i = T := by omega
        go_wp2_with fail
        go_meet
        exact ⟨HB, hb⟩
  case rest =>
    obtain ⟨HB, hb⟩ := hcut
    go_wp2_with fail
    go_loopw [12] (fun i wr => ∃ i0 : Nat, i0 ≤ N ∧ i = .int .i64 i0 ∧ Hid (Blk wr B (rowI (metL T N T 0)) 3) ∧ Below w.heap.size w wr) (fun i _ => N - (intOf i).toNat)
    case atStart => exact ⟨0, by omega, rfl, HB, hb⟩
    case round =>
      obtain ⟨i, hi, rfl, HB, hb⟩ := hrel
      by_cases hlt : i < N
      · have c0 := HB.out.cell i (v := .int .i64 1) (by
          have hl : i < (metL T N T 0).length := by rw [metL_len]; exact hlt
          rw [rowI_at _ _ hl]
          have h := metL_all (t := T) (by have := HTN.out; omega) hlt
          rw [List.getElem?_eq_getElem hl] at h
          rw [Option.some.inj h]; rfl)
        go_wp2_with fail
        go_roundw
        case rel => exact ⟨i + 1, by omega, by go_num, HB, hb⟩
        case measure => simp [intOf]; omega
      · obtain rfl : i = N := by omega
        go_wp2_with fail
        go_ret
        exact ⟨rfl, hb⟩
end Go.Proofs.Ytonckpblbdopmaa
