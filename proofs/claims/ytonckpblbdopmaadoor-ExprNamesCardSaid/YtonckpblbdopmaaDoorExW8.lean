/-
  Walks: the document's come; Eval on both sides.
-/
import Derived.Test.YtonckpblbdopmaaDoorExW7
namespace Go.Proofs.YtonckpblbdopmaaDoor
set_option linter.unusedVariables false
open Go Go.RowKit

set_option maxRecDepth 100000 in
set_option maxHeartbeats 4000000 in
theorem rcome_leaf2 (lo go : List Int) (n : Int) (w : World) (a : Option Addr) (cap : Nat) (vl vg : Value) (h0 : 0 ≤ n) (hl : RdInts w lo vl) :
    Calls Tryd.prog 36 #[.agg #[.int .u8 2, .int .i64 n, .slice a 0 cap], vl, vg] w fun e' w' => e' = .returned (.tuple #[.int .i64 (atS lo n).1, .int .i64 (atS lo n).2]) ∧ Below w.heap.size w w' := by
  obtain ⟨al, capl, rfl, hlen, -, hx⟩ := hl
  obtain ⟨k, rfl⟩ := Int.eq_ofNat_of_zero_le h0
  by_cases hlt : k < lo.length
  · obtain ⟨b, off, rfl, hc⟩ := hx (by intro h; subst h; simp at hlt)
    have hk := hc k hlt
    have hlb := lt_of_cell hk
    have HA := hid (show atS lo k = (lo[k], 0) by simp [atS, hlt])
    clear hc hx
    go_enter Tryd.func36, Tryd.ntmps36
    go_wp2_with fail
    go_ret2
    exact ⟨ret_two (by rw [HA.out]) (by rw [HA.out]), ext_alloc (ext_refl _) _⟩
  · have hge : lo.length ≤ k := by omega
    have HA := hid (show atS lo k = (0, 5) by simp [atS, hlt])
    clear hx hlt
    go_enter Tryd.func36, Tryd.ntmps36
    go_wp2_with fail
    go_ret2
    exact ⟨ret_two (by rw [HA.out]) (by rw [HA.out]), ext_alloc (ext_refl _) _⟩
set_option maxRecDepth 100000 in
set_option maxHeartbeats 4000000 in
theorem rcome_leaf3 (lo go : List Int) (n : Int) (w : World) (a : Option Addr) (cap : Nat) (vl vg : Value) (h0 : 0 ≤ n) (hl : RdInts w go vg) :
    Calls Tryd.prog 36 #[.agg #[.int .u8 3, .int .i64 n, .slice a 0 cap], vl, vg] w fun e' w' => e' = .returned (.tuple #[.int .i64 (atS go n).1, .int .i64 (atS go n).2]) ∧ Below w.heap.size w w' := by
  obtain ⟨al, capl, rfl, hlen, -, hx⟩ := hl
  obtain ⟨k, rfl⟩ := Int.eq_ofNat_of_zero_le h0
  by_cases hlt : k < go.length
  · obtain ⟨b, off, rfl, hc⟩ := hx (by intro h; subst h; simp at hlt)
    have hk := hc k hlt
    have hlb := lt_of_cell hk
    have HA := hid (show atS go k = (go[k], 0) by simp [atS, hlt])
    clear hc hx
    go_enter Tryd.func36, Tryd.ntmps36
    go_wp2_with fail
    go_ret2
    exact ⟨ret_two (by rw [HA.out]) (by rw [HA.out]), ext_alloc (ext_refl _) _⟩
  · have hge : go.length ≤ k := by omega
    have HA := hid (show atS go k = (0, 5) by simp [atS, hlt])
    clear hx hlt
    go_enter Tryd.func36, Tryd.ntmps36
    go_wp2_with fail
    go_ret2
    exact ⟨ret_two (by rw [HA.out]) (by rw [HA.out]), ext_alloc (ext_refl _) _⟩

set_option maxRecDepth 100000 in
set_option maxHeartbeats 4000000 in
theorem rcome_any (m : Nat) (lo go : List Int) : ∀ (e : Ex) (w : World) (v0 v1 v2 vl vg : Value), wholeS m e = true → RdEx w e v0 v1 v2 → RdInts w lo vl → RdInts w go vg →
    Calls Tryd.prog 36 #[.agg #[v0, v1, v2], vl, vg] w fun e' w' => e' = .returned (.tuple #[.int .i64 (comeS lo go m e).1, .int .i64 (comeS lo go m e).2]) ∧ Below w.heap.size w w' := by
  induction m with
  | zero => intro e w v0 v1 v2 vl vg h; simp [wholeS] at h
  | succ m ih =>
  intro e w v0 v1 v2 vl vg hwh hr hl hg
  cases e with | mk op n args =>
  unfold RdEx at hr
  obtain ⟨rfl, rfl, -, ⟨hn1, hn2⟩, a, cap, rfl, hlen, hx⟩ := hr
  rcases whole_cases hwh with ⟨rfl, rfl⟩ | ⟨rfl, rfl, h0, h1⟩ | ⟨rfl, rfl, h0, h1⟩ | ⟨h1, h2, rfl, x, y, rfl, hwx, hwy⟩
  · clear hwh ih
    rw [comeS_leaf1]
    obtain ⟨al, capl, rfl, -⟩ := hl
    obtain ⟨ag, capg, rfl, -⟩ := hg
    go_enter Tryd.func36, Tryd.ntmps36
    go_wp2_with fail
    go_ret2
    exact ⟨rfl, ext_alloc (ext_refl _) _⟩
  · exact rcome_leaf2 lo go n w a cap vl vg h0 hl
  · exact rcome_leaf3 lo go n w a cap vl vg h0 hg
  · have IH := hid ih; clear ih
    have HL := hid hl; clear hl
    have HG := hid hg; clear hg
    have HX := hid hx; clear hx
    obtain ⟨al, capl, rfl, -⟩ := HL.out
    obtain ⟨ag, capg, rfl, -⟩ := HG.out
    clear hwh hn1 hn2
    rw [comeS_two lo go m op 0 x y h1]
    have e1 : (op == 1) = false := by rw [beq_eq_false_iff_ne]; omega
    have e2 : (op == 2) = false := by rw [beq_eq_false_iff_ne]; omega
    have e3 : (op == 3) = false := by rw [beq_eq_false_iff_ne]; omega
    obtain ⟨b, off, rfl, hrd⟩ := HX.out (by simp)
    obtain ⟨a0, cap0, c0, c1, c2, hrx⟩ := hrd.get' 0 (by simp)
    obtain ⟨a1, cap1, d0, d1, d2, hry⟩ := hrd.get' 1 (by simp)
    simp only [Nat.zero_mul, Nat.add_zero, Nat.one_mul, List.getElem_cons_zero, List.getElem_cons_succ] at c0 c1 c2 hrx d0 d1 d2 hry
    have hlt := lt_of_cell c0
    have HRX := hid hrx; clear hrx
    have HRY := hid hry; clear hry hrd
    generalize hcx : comeS lo go m x = cx
    generalize hcy : comeS lo go m y = cy
    obtain ⟨X1, X2⟩ := cx
    obtain ⟨Y1, Y2⟩ := cy
    have HCX := hid hcx; clear hcx
    have HCY := hid hcy; clear hcy
    have HWX := hid hwx; clear hwx
    have HWY := hid hwy; clear hwy
    dsimp only
    go_enter Tryd.func36, Tryd.ntmps36
    go_wp2_with fail
    have hA := ext_alloc (ext_refl w) (.cells #[.int .u8 op, .int .i64 0, .slice (some ⟨b, off, none⟩) [x, y].length cap] 29)
    refine (IH.out x _ _ _ _ _ _ HWX.out (HRX.out.below hA) (HL.out.below hA) (HG.out.below hA)).mono ?_
    rw [HCX.out]
    rintro e' w1 ⟨rfl, hb1⟩
    have hE := ext_trans hA hb1
    have hc := bcell hb1
    by_cases hz : X2 = 0
    · subst hz
      go_wp2_with fail
      refine (IH.out y _ _ _ _ _ _ HWY.out (HRY.out.below hE) (HL.out.below hE) (HG.out.below hE)).mono ?_
      rw [HCY.out]
      rintro e' w2 ⟨rfl, hb2⟩
      have hE2 := ext_trans hE hb2
      have hop := later hb2 (later hb1 (show (w.alloc (.cells #[.int .u8 op, .int .i64 0, .slice (some ⟨b, off, none⟩) [x, y].length cap] 29)).cell? ⟨w.heap.size, 0, none⟩ = some (.int .u8 op) by simp))
      clear hc hA
      by_cases hy : Y2 = 0
      · subst hy
        clear e1 e2 e3
        rcases (by omega : op = 4 ∨ op = 5 ∨ op = 6 ∨ op = 7 ∨ op = 8) with rfl | rfl | rfl | rfl | rfl
        · go_wp2_with fail
          go_ret2
          exact ⟨ret_two rfl rfl, hE2⟩
        · go_wp2_with fail
          go_ret2
          exact ⟨ret_two rfl rfl, hE2⟩
        · go_wp2_with fail
          go_ret2
          exact ⟨ret_two rfl rfl, hE2⟩
        · by_cases hlt : X1 < Y1
          · have HS := hid (show opS 7 X1 Y1 = 1 by simp [opS, hlt])
            go_wp2_with fail
            go_ret2
            exact ⟨ret_two (by simp [HS.out]) rfl, hE2⟩
          · have HS := hid (show opS 7 X1 Y1 = 0 by simp [opS, hlt])
            go_wp2_with fail
            go_ret2
            exact ⟨ret_two (by simp [HS.out]) rfl, hE2⟩
        · by_cases hlt : X1 = Y1
          · have HS := hid (show opS 8 X1 Y1 = 1 by simp [opS, hlt])
            subst hlt
            go_wp2_with fail
            go_ret2
            exact ⟨ret_two (by simp [HS.out]) rfl, hE2⟩
          · have HS := hid (show opS 8 X1 Y1 = 0 by simp [opS, hlt])
            have hne : (X1 == Y1) = false := by rw [beq_eq_false_iff_ne]; exact hlt
            clear hlt
            go_wp2_with fail
            go_ret2
            exact ⟨ret_two (by simp [HS.out]) rfl, hE2⟩
      · have hz1 : (Y2 != 0) = true := by rw [bne_iff_ne]; exact hy
        have HZ := hid hy; clear hy
        go_wp2_with fail
        go_ret2
        exact ⟨ret_two (by first | rfl | simp [HZ.out]) (by first | rfl | simp [HZ.out]), hE2⟩
    · have hz1 : (X2 != 0) = true := by rw [bne_iff_ne]; exact hz
      have HZ := hid hz; clear hz
      go_wp2_with fail
      go_ret2
      exact ⟨ret_two (by first | rfl | simp [HZ.out]) (by first | rfl | simp [HZ.out]), hE⟩

set_option maxRecDepth 100000 in
set_option maxHeartbeats 4000000 in
theorem eval_any (lo go : List Int) (e : Ex) (w : World) (v0 v1 v2 vl vg : Value) (hr : RdEx w e v0 v1 v2) (hl : RdInts w lo vl) (hg : RdInts w go vg) (ho : OpsAt w) :
    Calls Tryd.prog 15 #[.agg #[v0, v1, v2], vl, vg] w fun e' w' => e' = .returned (.tuple #[.int .i64 (evalS lo go e).1, .int .i64 (evalS lo go e).2]) ∧ Below w.heap.size w w' := by
  have HR := hid hr
  obtain ⟨a, cap, rfl, rfl, rfl⟩ := hr.shape
  have HL := hid hl; clear hl
  have HG := hid hg; clear hg
  have HO := hid ho; clear ho
  obtain ⟨al, capl, rfl, -⟩ := HL.out
  obtain ⟨ag, capg, rfl, -⟩ := HG.out
  clear hr
  have hA := ext_alloc (ext_refl w) (.cells #[.int .u8 e.op, .int .i64 e.n, .slice a e.args.length cap] 29)
  have HW := Whole_any e _ _ _ _ (HR.out.below hA)
  cases hpk : wholeS 6 e
  · have hev : evalS lo go e = (0, 4) := by simp [evalS, hpk]
    rw [hev]
    rw [hpk] at HW
    have HW := hid HW
    clear hpk hev
    go_enter Tryd.func15, Tryd.ntmps15
    go_wp2_with fail
    refine HW.out.mono ?_
    rintro e' w1 ⟨rfl, hb1⟩
    go_wp2_with fail
    go_ret2
    exact ⟨rfl, ext_trans hA hb1⟩
  · have hev : evalS lo go e = comeS lo go 6 e := by simp [evalS, hpk]
    rw [hev]
    rw [hpk] at HW
    have HW := hid HW
    have HPK := hid hpk
    clear hpk hev
    generalize hce : comeS lo go 6 e = ce
    obtain ⟨X1, X2⟩ := ce
    have HCE := hid hce; clear hce
    go_enter Tryd.func15, Tryd.ntmps15
    go_wp2_with fail
    refine HW.out.mono ?_
    rintro e' w1 ⟨rfl, hb1⟩
    have hE := ext_trans hA hb1
    have hc := bcell hb1
    go_wp2_with fail
    refine (come_any 6 lo go e _ _ _ _ _ _ HPK.out (HR.out.below hE) (HL.out.below hE) (HG.out.below hE) (HO.out.below hE)).mono ?_
    rw [HCE.out]
    rintro e' w2 ⟨rfl, hb2⟩
    go_wp2_with fail
    go_ret2
    exact ⟨rfl, ext_trans hE hb2⟩

set_option maxRecDepth 100000 in
set_option maxHeartbeats 4000000 in
theorem reval_any (lo go : List Int) (e : Ex) (w : World) (v0 v1 v2 vl vg : Value) (hr : RdEx w e v0 v1 v2) (hl : RdInts w lo vl) (hg : RdInts w go vg) :
    Calls Tryd.prog 24 #[.agg #[v0, v1, v2], vl, vg] w fun e' w' => e' = .returned (.tuple #[.int .i64 (evalS lo go e).1, .int .i64 (evalS lo go e).2]) ∧ Below w.heap.size w w' := by
  have HR := hid hr
  obtain ⟨a, cap, rfl, rfl, rfl⟩ := hr.shape
  have HL := hid hl; clear hl
  have HG := hid hg; clear hg
  obtain ⟨al, capl, rfl, -⟩ := HL.out
  obtain ⟨ag, capg, rfl, -⟩ := HG.out
  clear hr
  have hA := ext_alloc (ext_refl w) (.cells #[.int .u8 e.op, .int .i64 e.n, .slice a e.args.length cap] 29)
  have HW := rWhole_any e _ _ _ _ (HR.out.below hA)
  cases hpk : wholeS 6 e
  · have hev : evalS lo go e = (0, 4) := by simp [evalS, hpk]
    rw [hev]
    rw [hpk] at HW
    have HW := hid HW
    clear hpk hev
    go_enter Tryd.func24, Tryd.ntmps24
    go_wp2_with fail
    refine HW.out.mono ?_
    rintro e' w1 ⟨rfl, hb1⟩
    go_wp2_with fail
    go_ret2
    exact ⟨rfl, ext_trans hA hb1⟩
  · have hev : evalS lo go e = comeS lo go 6 e := by simp [evalS, hpk]
    rw [hev]
    rw [hpk] at HW
    have HW := hid HW
    have HPK := hid hpk
    clear hpk hev
    generalize hce : comeS lo go 6 e = ce
    obtain ⟨X1, X2⟩ := ce
    have HCE := hid hce; clear hce
    go_enter Tryd.func24, Tryd.ntmps24
    go_wp2_with fail
    refine HW.out.mono ?_
    rintro e' w1 ⟨rfl, hb1⟩
    have hE := ext_trans hA hb1
    have hc := bcell hb1
    go_wp2_with fail
    refine (rcome_any 6 lo go e _ _ _ _ _ _ HPK.out (HR.out.below hE) (HL.out.below hE) (HG.out.below hE)).mono ?_
    rw [HCE.out]
    rintro e' w2 ⟨rfl, hb2⟩
    go_wp2_with fail
    go_ret2
    exact ⟨rfl, ext_trans hE hb2⟩
end Go.Proofs.YtonckpblbdopmaaDoor
