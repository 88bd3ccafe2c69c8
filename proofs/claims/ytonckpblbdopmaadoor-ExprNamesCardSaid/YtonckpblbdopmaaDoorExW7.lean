/-
  Walks: come of expressions, by the table of operators.
-/
import Derived.Test.YtonckpblbdopmaaDoorExW6
namespace Go.Proofs.YtonckpblbdopmaaDoor
set_option linter.unusedVariables false
open Go Go.RowKit

theorem comeS_leaf1 (lo go : List Int) (m : Nat) (n : Int) (l : List Ex) : comeS lo go (m + 1) (.mk 1 n l) = (n, 0) := rfl
theorem comeS_leaf2 (lo go : List Int) (m : Nat) (n : Int) (l : List Ex) : comeS lo go (m + 1) (.mk 2 n l) = atS lo n := rfl
theorem comeS_leaf3 (lo go : List Int) (m : Nat) (n : Int) (l : List Ex) : comeS lo go (m + 1) (.mk 3 n l) = atS go n := rfl
theorem comeS_two (lo go : List Int) (m : Nat) (op n : Int) (x y : Ex) (h1 : 4 ≤ op) : comeS lo go (m + 1) (.mk op n [x, y]) =
    if (comeS lo go m x).2 = 0 then (if (comeS lo go m y).2 = 0 then (opS op (comeS lo go m x).1 (comeS lo go m y).1, 0) else (0, (comeS lo go m y).2)) else (0, (comeS lo go m x).2) := by
  have a1 : ¬ op = 1 := by omega
  have a2 : ¬ op = 2 := by omega
  have a3 : ¬ op = 3 := by omega
  simp only [comeS, a1, a2, a3, if_false]
theorem whole_cases {m : Nat} {op n : Int} {args : List Ex} (h : wholeS (m + 1) (.mk op n args) = true) :
    (op = 1 ∧ args = []) ∨ (op = 2 ∧ args = [] ∧ 0 ≤ n ∧ n < 8) ∨ (op = 3 ∧ args = [] ∧ 0 ≤ n ∧ n < 6) ∨
    (4 ≤ op ∧ op ≤ 8 ∧ n = 0 ∧ ∃ x y, args = [x, y] ∧ wholeS m x = true ∧ wholeS m y = true) := by
  simp only [wholeS] at h
  split at h
  · left; simp_all
  split at h
  · right; left; simp_all
  split at h
  · right; right; left; simp_all
  split at h
  · simp at h
  rename_i hh
  right; right; right
  split at h
  · simp at h; refine ⟨by omega, by omega, by omega, _, _, rfl, h.1, h.2⟩
  · simp at h

theorem opS_bd (op x y : Int) : -9223372036854775808 ≤ opS op x y ∧ opS op x y ≤ 9223372036854775807 := by
  unfold opS
  repeat' split
  all_goals first | exact wrap64_bd _ | omega

set_option maxRecDepth 100000 in
set_option maxHeartbeats 4000000 in
theorem come_any (m : Nat) (lo go : List Int) : ∀ (e : Ex) (w : World) (v0 v1 v2 vl vg : Value), wholeS m e = true → RdEx w e v0 v1 v2 → RdInts w lo vl → RdInts w go vg → OpsAt w →
    Calls Tryd.prog 31 #[.agg #[v0, v1, v2], vl, vg] w fun e' w' => e' = .returned (.tuple #[.int .i64 (comeS lo go m e).1, .int .i64 (comeS lo go m e).2]) ∧ Below w.heap.size w w' := by
  induction m with
  | zero => intro e w v0 v1 v2 vl vg h; simp [wholeS] at h
  | succ m ih =>
  intro e w v0 v1 v2 vl vg hwh hr hl hg ho
  cases e with | mk op n args =>
  have IH := hid ih; clear ih
  have HL := hid hl; clear hl
  have HG := hid hg; clear hg
  have HO := hid ho; clear ho
  unfold RdEx at hr
  obtain ⟨rfl, rfl, -, ⟨hn1, hn2⟩, a, cap, rfl, hlen, hx⟩ := hr
  have HX := hid hx; clear hx
  obtain ⟨al, capl, rfl, -⟩ := HL.out
  obtain ⟨ag, capg, rfl, -⟩ := HG.out
  rcases whole_cases hwh with ⟨rfl, rfl⟩ | ⟨rfl, rfl, h0, h1⟩ | ⟨rfl, rfl, h0, h1⟩ | ⟨h1, h2, rfl, x, y, rfl, hwx, hwy⟩
  · clear hwh
    rw [comeS_leaf1]
    go_enter Tryd.func31, Tryd.ntmps31
    go_wp2_with fail
    go_ret2
    exact ⟨rfl, ext_alloc (ext_refl _) _⟩
  · clear hwh
    rw [comeS_leaf2]
    go_enter Tryd.func31, Tryd.ntmps31
    go_wp2_with fail
    refine (at_any lo n _ _ (HL.out.below ?_) h0).mono ?_
    · exact ext_alloc (ext_refl _) _
    rintro e' w1 ⟨rfl, rfl⟩
    go_wp2_with fail
    go_ret2
    exact ⟨rfl, ext_alloc (ext_refl _) _⟩
  · clear hwh
    rw [comeS_leaf3]
    go_enter Tryd.func31, Tryd.ntmps31
    go_wp2_with fail
    refine (at_any go n _ _ (HG.out.below ?_) h0).mono ?_
    · exact ext_alloc (ext_refl _) _
    rintro e' w1 ⟨rfl, rfl⟩
    go_wp2_with fail
    go_ret2
    exact ⟨rfl, ext_alloc (ext_refl _) _⟩
  · clear hwh hn1 hn2
    rw [comeS_two lo go m op 0 x y h1]
    have e1 : (op == 1) = false := by rw [beq_eq_false_iff_ne]; omega
    have e2 : (op == 2) = false := by rw [beq_eq_false_iff_ne]; omega
    have e3 : (op == 3) = false := by rw [beq_eq_false_iff_ne]; omega
    have HWX := hid hwx; clear hwx
    have HWY := hid hwy; clear hwy
    obtain ⟨b, off, rfl, hrd⟩ := HX.out (by simp)
    have HRD := hid hrd; clear hrd
    generalize hcx : comeS lo go m x = cx
    generalize hcy : comeS lo go m y = cy
    obtain ⟨X1, X2⟩ := cx
    obtain ⟨Y1, Y2⟩ := cy
    have HCX := hid hcx; clear hcx
    have HCY := hid hcy; clear hcy
    dsimp only
    go_enter Tryd.func31, Tryd.ntmps31
    go_wp2_with fail
    go_loopw [38] (fun i wr => ∃ k : Nat, ∃ X Y : Int, k ≤ 2 ∧ i = .int .i64 k ∧ Hid (1 ≤ k → X = X1 ∧ X2 = 0) ∧ Hid (2 ≤ k → Y = Y1 ∧ Y2 = 0) ∧
      wr.cell? ⟨w.heap.size, 0, none⟩ = some (.int .u8 op) ∧ Blk wr (w.heap.size + 1) #[.int .i64 X, .int .i64 Y] 54 ∧ Below w.heap.size w wr) (fun i _ => 2 - (intOf i).toNat)
    case atStart => exact ⟨0, 0, 0, by omega, rfl, hid (by omega), hid (by omega), by simp, Blk.new' _ _ _ (by simp), ext_alloc (ext_alloc (ext_refl _) _) _⟩
    case round =>
      obtain ⟨k, X, Y, hk, rfl, HKX, HKY, hop, hblk, hb⟩ := hrel
      have hx0 := hblk.cell 0 (v := .int .i64 X) rfl
      have hx1 := hblk.cell 1 (v := .int .i64 Y) rfl
      have hf0 := hblk.free 0
      have hf1 := hblk.free 1
      have HB := hid hblk; clear hblk
      rcases (by omega : k = 0 ∨ k = 1 ∨ k = 2) with rfl | rfl | rfl
      · -- the first part
        obtain ⟨a', cap', c0, c1, c2, hx⟩ := HRD.out.get' 0 (by simp)
        simp only [Nat.zero_mul, Nat.add_zero, List.getElem_cons_zero] at c0 c1 c2 hx
        have d0 := later hb c0
        have d1 := later hb c1
        have d2 := later hb c2
        have hext := ext_alloc hb (.cells #[.int .u8 x.op, .int .i64 x.n, .slice a' x.args.length cap'] 29)
        have HI := hid (IH.out x _ _ _ _ _ _ HWX.out (hx.below hext) (HL.out.below hext) (HG.out.below hext) (HO.out.below hext))
        clear c0 c1 c2 hx hext
        go_wp2_with fail
        refine HI.out.mono ?_
        rw [HCX.out]
        rintro e' w1 ⟨rfl, hb1⟩
        have hE : Below wr.heap.size wr w1 := ext_trans (ext_alloc (ext_refl _) _) hb1
        have hop1 := later hE hop
        have hblk1 := Blk.below hE HB.out
        have hf10 := hblk1.free 0
        have hx10 := hblk1.cell 0 (v := .int .i64 X) rfl
        have HB1 := hid hblk1; clear hblk1
        by_cases hz : X2 = 0
        · subst hz
          go_wp2_with fail
          go_roundw
          case rel => exact ⟨1, X1, Y, by omega, by go_num, hid (by simp), hid (by omega), cell_set hop1 _ _ (by simp), by simpa using HB1.out.set 0 (.int .i64 X1), ext_set (ext_trans hb hE) (by simp) _⟩
          case measure => simp [intOf]
        · have hz1 : (X2 != 0) = true := by rw [bne_iff_ne]; exact hz
          have HZ := hid hz; clear hz
          go_wp2_with fail
          go_ret2
          exact ⟨ret_two (by first | rfl | simp [HZ.out]) (by first | rfl | simp [HZ.out]), ext_trans hb hE⟩
      · -- the second part
        obtain ⟨hX, hX2⟩ := HKX.out (by omega)
        subst hX; subst hX2
        obtain ⟨a', cap', c0, c1, c2, hx⟩ := HRD.out.get' 1 (by simp)
        simp only [Nat.one_mul, List.getElem_cons_succ, List.getElem_cons_zero] at c0 c1 c2 hx
        have d0 := later hb c0
        have d1 := later hb c1
        have d2 := later hb c2
        have hext := ext_alloc hb (.cells #[.int .u8 y.op, .int .i64 y.n, .slice a' y.args.length cap'] 29)
        have HI := hid (IH.out y _ _ _ _ _ _ HWY.out (hx.below hext) (HL.out.below hext) (HG.out.below hext) (HO.out.below hext))
        clear c0 c1 c2 hx hext
        go_wp2_with fail
        refine HI.out.mono ?_
        rw [HCY.out]
        rintro e' w1 ⟨rfl, hb1⟩
        have hE : Below wr.heap.size wr w1 := ext_trans (ext_alloc (ext_refl _) _) hb1
        have hop1 := later hE hop
        have hblk1 := Blk.below hE HB.out
        have hf11 := hblk1.free 1
        have hx11 := hblk1.cell 1 (v := .int .i64 Y) rfl
        have HB1 := hid hblk1; clear hblk1
        by_cases hz : Y2 = 0
        · subst hz
          go_wp2_with fail
          go_roundw
          case rel => exact ⟨2, X, Y1, by omega, by go_num, hid (by simp), hid (by simp), cell_set hop1 _ _ (by simp), by simpa using HB1.out.set 1 (.int .i64 Y1), ext_set (ext_trans hb hE) (by simp) _⟩
          case measure => simp [intOf]
        · have hz1 : (Y2 != 0) = true := by rw [bne_iff_ne]; exact hz
          have HZ := hid hz; clear hz
          go_wp2_with fail
          go_ret2
          exact ⟨ret_two (by first | rfl | simp [HZ.out]) (by first | rfl | simp [HZ.out]), ext_trans hb hE⟩
      · -- both are there
        obtain ⟨hX, hX2⟩ := HKX.out (by omega)
        obtain ⟨hY, hY2⟩ := HKY.out (by omega)
        subst hX; subst hX2; subst hY; subst hY2
        obtain ⟨o4, o5, o6, o7, o8⟩ := HO.out.below hb
        clear e1 e2 e3 hf0 hf1
        rcases (by omega : op = 4 ∨ op = 5 ∨ op = 6 ∨ op = 7 ∨ op = 8) with rfl | rfl | rfl | rfl | rfl
        · clear h1 h2 o5 o6 o7 o8
          go_wp2_with fail
          go_quiet ((go_at_call 61; exact Calls.quiet_of_same (op1_any _ _ _)))
          go_wp2_with fail
          go_ret2
          exact ⟨rfl, ext_drewN hb _⟩
        · clear h1 h2 o4 o6 o7 o8
          go_wp2_with fail
          go_quiet ((go_at_call 62; exact Calls.quiet_of_same (op2_any _ _ _)))
          go_wp2_with fail
          go_ret2
          exact ⟨rfl, ext_drewN hb _⟩
        · clear h1 h2 o4 o5 o7 o8
          go_wp2_with fail
          go_quiet ((go_at_call 63; exact Calls.quiet_of_same (op3_any _ _ _)))
          go_wp2_with fail
          go_ret2
          exact ⟨rfl, ext_drewN hb _⟩
        · clear h1 h2 o4 o5 o6 o8
          go_wp2_with fail
          go_quiet ((go_at_call 64; exact Calls.quiet_of_same (op4_any _ _ _)))
          go_wp2_with fail
          go_ret2
          exact ⟨rfl, ext_drewN hb _⟩
        · clear h1 h2 o4 o5 o6 o7
          go_wp2_with fail
          go_quiet ((go_at_call 66; exact Calls.quiet_of_same (op5_any _ _ _)))
          go_wp2_with fail
          go_ret2
          exact ⟨rfl, ext_drewN hb _⟩
end Go.Proofs.YtonckpblbdopmaaDoor
