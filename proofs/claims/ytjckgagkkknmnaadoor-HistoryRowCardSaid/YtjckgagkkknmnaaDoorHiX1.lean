/-
  The law HistoryRow: its walk.
-/
import Derived.Test.YtjckgagkkknmnaaDoorHiU
import Derived.Test.YtjckgagkkknmnaaDoorHiG4
import Derived.Test.YtjckgagkkknmnaaDoorTurn
namespace Go.Proofs.YtjckgagkkknmnaaDoor
set_option linter.unusedVariables false
set_option linter.unusedSimpArgs false
set_option linter.unusedVariables false
open Go Go.RowKit
set_option maxRecDepth 100000 in
set_option maxHeartbeats 4000000 in
theorem row_great (T V S : Int) (a : Option Addr) (len cap : Nat) (w : World) (hl : 2000 < len) (hK : KindsAt w) (hT : TabOk w) :
    Calls Tryd.prog 3 #[trA T V S a len cap] w fun e w' => e = .returned (.bool true) ∧ Below w.heap.size w w' := by
  have HW := hid (fun W (hW : Below w.heap.size w W) => Rk.works_any W (hK.below hW) (hT.below hW))
  have j : decide ((2000 : Int) < (len : Int)) = true := by rw [decide_eq_true_iff]; omega
  clear hl hK hT
  dsimp only [trA]
  have HB : Hid (Below w.heap.size w (w.alloc (.cells #[.int .i64 T, .int .i64 V, .int .i64 S, .slice a len cap] 24))) := hid (ext_alloc (ext_refl _) _)
  have d := (Blk.new w #[.int .i64 T, .int .i64 V, .int .i64 S, .slice a len cap] 24).cell 3 rfl
  go_enter Tryd.func3, Tryd.ntmps3
  go_wp2_with fail
  refine (HW.out _ HB.out).mono ?_
  rintro e' w1 ⟨rfl, hb1⟩
  have d3 := later hb1 d
  have HB1 := hid (ext_trans HB.out hb1)
  clear hb1 d
  go_wp2_with fail
  refine (HW.out _ HB1.out).mono ?_
  rintro e' w2 ⟨rfl, hb2⟩
  have HB2 := hid (ext_trans HB1.out hb2)
  clear hb2
  go_wp2_with fail
  go_ret
  exact ⟨rfl, HB2.out⟩
set_option maxRecDepth 100000 in
set_option maxHeartbeats 4000000 in
theorem row_no (T V S : Int) (a : Option Addr) (l : List Ev) (cap : Nat) (w : World) (hl : l.length ≤ 2000) (hc : (checkT T V S l).2 ≠ 0) (hE : EvsAt w a l) (hK : KindsAt w) (hT : TabOk w) :
    Calls Tryd.prog 3 #[trA T V S a l.length cap] w fun e w' => e = .returned (.bool true) ∧ Below w.heap.size w w' := by
  have HW := hid (fun W (hW : Below w.heap.size w W) => Rk.works_any W (hK.below hW) (hT.below hW))
  have HC := hid (fun W (hW : Below w.heap.size w W) => of_any T V S a l cap W (hE.below hW) (hK.below hW) (hT.below hW))
  have j : decide ((2000 : Int) < (l.length : Int)) = false := by rw [decide_eq_false_iff_not]; omega
  unfold OfP at HC
  obtain ⟨q, hq⟩ : ∃ q, (checkT T V S l).2 = q := ⟨_, rfl⟩
  rw [hq] at HC hc
  have g1 : (q == 0) = false := beq_eq_false_iff_ne.2 hc
  have g2 : (q != 0) = true := bne_iff_ne.2 hc
  clear hl hK hT hE hc hq
  dsimp only [trA] at HC ⊢
  have HB : Hid (Below w.heap.size w (w.alloc (.cells #[.int .i64 T, .int .i64 V, .int .i64 S, .slice a l.length cap] 24))) := hid (ext_alloc (ext_refl _) _)
  have d := Blk.new w #[.int .i64 T, .int .i64 V, .int .i64 S, .slice a l.length cap] 24
  go_enter Tryd.func3, Tryd.ntmps3
  go_wp2_with fail
  refine (HW.out _ HB.out).mono ?_
  rintro e' w1 ⟨rfl, hb1⟩
  have d0 := later hb1 (d.cell 0 rfl)
  have d1 := later hb1 (d.cell 1 rfl)
  have d2 := later hb1 (d.cell 2 rfl)
  have d3 := later hb1 (d.cell 3 rfl)
  have HB1 := hid (ext_trans HB.out hb1)
  clear hb1 d
  go_wp2_with fail
  refine (HC.out _ HB1.out).mono ?_
  rintro e' w2 ⟨vo, rfl, hb2, hat⟩
  have HB2 := hid (ext_trans HB1.out hb2)
  clear hb2 hat
  go_wp2_with fail
  go_ret
  exact ⟨rfl, HB2.out⟩
/-- The last attempts of the threads, as the law keeps them. -/
def rowL (L : List Att) (k : Nat) : Array Value := ((List.range 6).map fun (t : Nat) => Value.int .i64 ((lastA L k (t : Int) : Nat) : Int)).toArray
theorem rowL_get (L : List Att) (k t : Nat) (ht : t < 6) : (rowL L k)[t]? = some (.int .i64 ((lastA L k (t : Int) : Nat) : Int)) := by
  unfold rowL
  rw [List.getElem?_toArray, List.getElem?_map, List.getElem?_range ht]; rfl
theorem rowL_set {L : List Att} {k t : Nat} (h : (L.getD k Att.zero).th = (t : Int)) : (rowL L k).setIfInBounds t (.int .i64 ((k : Int) + 1)) = rowL L (k + 1) := by
  apply Array.ext
  · simp [rowL]
  · intro i h1 h2
    have hi : i < 6 := by simpa [rowL] using h2
    have e1 := rowL_get L k i hi
    have e2 := rowL_get L (k + 1) i hi
    rw [Array.getElem?_eq_getElem h2] at e2
    rw [Option.some.inj e2, Array.getElem_setIfInBounds (by simpa [rowL] using hi)]
    unfold lastA
    by_cases hti : t = i
    · subst hti
      rw [if_pos rfl, if_pos h]; simp
    · rw [if_neg hti, if_neg (by rw [h]; omega)]
      rw [Array.getElem?_eq_getElem (by simpa [rowL] using hi)] at e1
      exact Option.some.inj e1
/-- Cells of the attempts that Of has told. -/
theorem AttsAt.cells {W : World} {n₀ : Nat} {v : Value} {L : List Att} (h : AttsAt W n₀ v L) (hL : 0 < L.length) : ∃ (g cap : Nat) (H : Nat → Bool → Value), v = .slice (some ⟨g, 0, none⟩) L.length cap ∧ g < W.heap.size ∧
    (∀ (k j : Nat) (u : Value), k < L.length → j < 9 → (attL (L.getD k Att.zero) (H k false) (H k true))[j]? = some u → W.cell? ⟨g, k * 9 + j, none⟩ = some u) ∧
    (∀ (k : Nat) (b : Bool), k < L.length → W.ownsRow n₀ 36 2 (H k b) (plB (L.getD k Att.zero) b).length (pairsL (plB (L.getD k Att.zero) b))) := by
  obtain ⟨H, h1, h2⟩ := h
  obtain ⟨g, c, rfl, _, hl⟩ := own_slice h1 hL
  refine ⟨g, c, H, rfl, hl, fun k j u hk hj hu => ?_, h2⟩
  rw [h1.cellAt (k * 9 + j) (by omega), attsL_get hk hj]; exact hu
theorem own_is {W : World} {n₀ e size n : Nat} {v : Value} {xs : List Value} (h : W.ownsRow n₀ e size v n xs) : ∃ x c, v = .slice x n c := by
  obtain ⟨h0, h1⟩ := h
  rcases h1 with ⟨rfl, hn⟩ | ⟨g, c, cur, rfl, _⟩
  · exact ⟨none, 0, by rw [hn]⟩
  · exact ⟨_, _, rfl⟩
theorem rowL_zero (L : List Att) : rowL L 0 = #[.int .i64 0, .int .i64 0, .int .i64 0, .int .i64 0, .int .i64 0, .int .i64 0] := rfl
set_option maxRecDepth 100000 in
set_option maxHeartbeats 4000000 in
theorem row_loop (T V S : Int) (a : Option Addr) (l : List Ev) (cap : Nat) (w : World) (hl : l.length ≤ 2000) (hc : (checkT T V S l).2 = 0) (hE : EvsAt w a l) (hK : KindsAt w) (hT : TabOk w) :
    Calls Tryd.prog 3 #[trA T V S a l.length cap] w fun e w' => e = .returned (.bool true) ∧ Below w.heap.size w w' := by
  have HW := hid (fun W (hW : Below w.heap.size w W) => Rk.works_any W (hK.below hW) (hT.below hW))
  have HC := hid (fun W (hW : Below w.heap.size w W) => of_any T V S a l cap W (hE.below hW) (hK.below hW) (hT.below hW))
  have j : decide ((2000 : Int) < (l.length : Int)) = false := by rw [decide_eq_false_iff_not]; omega
  obtain ⟨hz, _, s, hs⟩ := checkT_fine hc
  have hz' := sizeOk_of hz
  have hI := hs.hi
  unfold OfP at HC
  rw [hc, if_pos rfl] at HC
  have hTl : (s.ths.length : Int) ≤ 6 := by have := hs.wf.size; omega
  obtain ⟨L, hL⟩ : ∃ L, (histT l).out = L := ⟨_, rfl⟩
  have hLl : L.length ≤ 2000 := by
    have := hist_len l newH 0
    have h0 : newH.out.length = 0 := rfl
    rw [← hL]
    show (histF newH 0 l).out.length ≤ 2000
    omega
  have HA := hid (fun k (hk : k < L.length) => hI.att k (L.getD k Att.zero) (by rw [hL]; exact get?_getD _ hk))
  have HF := hid (fun k (hk : k < L.length) => (row_fact hI (k := k) (by rw [hL]; exact hk)))
  have HP := hid (fun k (hk : k + 1 < L.length) => (hI.pair k (k + 1) (L.getD k Att.zero) (L.getD (k + 1) Att.zero) (by omega) (by rw [hL]; exact get?_getD _ (by omega)) (by rw [hL]; exact get?_getD _ hk)).1)
  rw [hL] at HC HF
  have HTX : Hid (∀ k, k < L.length → ∀ a, L.getD k Att.zero = a → a.tx ≤ 2000) := hid (by
    have key : ∀ k, k < L.length → (L.getD k Att.zero).tx ≤ (k : Int) := by
      intro k
      induction k using Nat.strongRecOn with
      | _ k ih =>
        intro hk
        rcases HF.out k hk with ⟨_, h2⟩ | ⟨m, _, h2, _, _, h5⟩
        · omega
        · have := ih m h2 (by omega)
          split at h5 <;> omega
    intro k hk a ha
    have := key k hk
    rw [ha] at this; omega)
  have HL := hid hLl
  have HTL := hid hTl
  clear hl hK hT hE hc hz hz' hs hI hL hLl hTl
  dsimp only [trA] at HC ⊢
  have HB : Hid (Below w.heap.size w (w.alloc (.cells #[.int .i64 T, .int .i64 V, .int .i64 S, .slice a l.length cap] 24))) := hid (ext_alloc (ext_refl _) _)
  have d := Blk.new w #[.int .i64 T, .int .i64 V, .int .i64 S, .slice a l.length cap] 24
  go_enter Tryd.func3, Tryd.ntmps3
  go_wp2_with fail
  refine (HW.out _ HB.out).mono ?_
  rintro e' w1 ⟨rfl, hb1⟩
  have d0 := later hb1 (d.cell 0 rfl)
  have d1 := later hb1 (d.cell 1 rfl)
  have d2 := later hb1 (d.cell 2 rfl)
  have d3 := later hb1 (d.cell 3 rfl)
  have HB1 := hid (ext_trans HB.out hb1)
  clear hb1 d
  go_wp2_with fail
  refine (HC.out _ HB1.out).mono ?_
  rintro e' w2 ⟨vo, rfl, hb2, hat⟩
  have HB2 := hid (ext_trans HB1.out hb2)
  have HAT := hid hat
  obtain ⟨cv, hlen⟩ : ∃ g c, vo = .slice g L.length c := by
    obtain ⟨H, ⟨h0, h1⟩, _⟩ := hat
    rcases h1 with ⟨rfl, hn⟩ | ⟨g, c, cur, rfl, _⟩
    · exact ⟨none, 0, by rw [hn]⟩
    · exact ⟨_, _, rfl⟩
  obtain ⟨cc, rfl⟩ := hlen
  clear hb2 hat d0 d1 d2 d3
  go_wp2_with fail
  go_loopw [6] (fun i wr => ∃ k : Nat, k ≤ L.length ∧ i = .int .i64 (k : Int) ∧ Hid (Blk wr w2.heap.size (rowL L k) 30) ∧ Hid (Below w2.heap.size w2 wr)) (fun i _ => L.length - (intOf i).toNat)
  case atStart => exact ⟨0, Nat.zero_le _, rfl, hid (by rw [rowL_zero]; exact Blk.new _ _ _), hid (ext_alloc (ext_refl _) _)⟩
  case round =>
    obtain ⟨k, hk, rfl, HBL, HBR⟩ := hrel
    have HKL := hid hk
    by_cases hlt : k < L.length
    · have HLT := hid hlt
      have j1 : decide ((k : Int) < (L.length : Int)) = true := by rw [decide_eq_true_iff]; omega
      have j2 : (0 : Int) ≤ (k : Int) := by omega
      have j3 : IntKind.i64.wrap ((k : Int) + 1) = (k : Int) + 1 := IntWalk.i64_in _ (by have := HL.out; omega)
      have j4 : decide (k < L.length) = true := by rw [decide_eq_true_iff]; omega
      obtain ⟨g, c, H, hsl, hgl, hcell, hown⟩ := HAT.out.cells (by omega)
      cases hsl
      have hok := HA.out k hlt
      have hrow := HF.out k hlt
      have hcw : ∀ i, i < L.length → ∀ (j : Nat) (u : Value), j < 9 → (attL (L.getD i Att.zero) (H i false) (H i true))[j]? = some u → wr.cell? ⟨g, i * 9 + j, none⟩ = some u := fun i hi j u hj hu => (HBR.out.cell (p := ⟨g, i * 9 + j, none⟩) hgl).trans (hcell i j u hi hj hu)
      have hb0 := hcw k hlt
      obtain ⟨b, hb⟩ : ∃ b, L.getD k Att.zero = b := ⟨_, rfl⟩
      rw [hb] at hok hrow hb0
      have hth : 0 ≤ b.th ∧ b.th < 6 := by have := hok.th; have := HTL.out; omega
      obtain ⟨t, ht⟩ := Int.eq_ofNat_of_zero_le hth.1
      have ht6 : t < 6 := by omega
      have hl0 := HBL.out.cell t (v := .int .i64 ((lastA L k (t : Int) : Nat) : Int)) (by exact rowL_get L k t ht6)
      have hle0 : lastA L k (t : Int) ≤ k := by rcases lastA_spec L (t : Int) k with ⟨h1, _⟩ | ⟨m, h1, h2, _⟩ <;> omega
      have hset := rowL_set (L := L) (k := k) (t := t) (by rw [hb]; exact ht)
      have hto := hok.to_
      rcases hbe : b with ⟨th, tx, fr, tw, rv, wv, com, rds, wrs⟩
      rw [hbe] at hb0 hrow hto ht hok
      have hbe2 := hb.trans hbe
      dsimp only at hrow hto ht
      subst ht
      have c0 := hb0 0 (.int .i64 (t : Int)) (by decide) rfl
      have c1 := hb0 1 (.int .i64 tx) (by decide) rfl
      have c2 := hb0 2 (.int .i64 fr) (by decide) rfl
      have c3 := hb0 3 (.int .i64 tw) (by decide) rfl
      have c4 := hb0 4 (.int .i64 rv) (by decide) rfl
      have c5 := hb0 5 (.int .i64 wv) (by decide) rfl
      have c6 := hb0 6 (.bool com) (by decide) rfl
      have c7 := hb0 7 (H k false) (by decide) rfl
      have c8 := hb0 8 (H k true) (by decide) rfl
      rw [Nat.add_zero] at c0
      have q1 : decide ((t : Int) < 0) = false := decide_eq_false (by omega)
      have q2 : decide (6 ≤ (t : Int)) = false := decide_eq_false (by omega)
      have hzf := HBL.out.free t
      have hll := lt_of_cell hl0
      have hglw := lt_of_cell c0
      have HSET := hid hset
      have q3 : (0 : Int) ≤ (t : Int) := by omega
      have q4 : (t : Int) < 6 := by omega
      have q5 : t < 6 := ht6
      obtain ⟨rx, rc, hr⟩ := own_is (hown k false hlt)
      obtain ⟨wx, wc, hw⟩ := own_is (hown k true hlt)
      rw [hr] at c7
      rw [hw] at c8
      have HOWN := hid hown
      clear hr hw hown
      generalize (plB (L.getD k Att.zero) false).length = rn at c7
      generalize (plB (L.getD k Att.zero) true).length = wn at c8
      have w1 : w2.heap.size ≤ wr.heap.size := HBR.out.size
      go_wp2_with fail
      have e := Blk.new wr #[.int .i64 (t : Int), .int .i64 tx, .int .i64 fr, .int .i64 tw, .int .i64 rv, .int .i64 wv, .bool com, .slice rx rn rc, .slice wx wn wc] 33
      have hA := HBR.out.alloc w1 (.cells #[.int .i64 (t : Int), .int .i64 tx, .int .i64 fr, .int .i64 tw, .int .i64 rv, .int .i64 wv, .bool com, .slice rx rn rc, .slice wx wn wc] 33)
      have hLb := HBL.out.alloc (.cells #[.int .i64 (t : Int), .int .i64 tx, .int .i64 fr, .int .i64 tw, .int .i64 rv, .int .i64 wv, .bool com, .slice rx rn rc, .slice wx wn wc] 33)
      have hsz : w2.heap.size < wr.heap.size := hll
      have HWR := hid w1
      generalize (wr.alloc (.cells #[.int .i64 (t : Int), .int .i64 tx, .int .i64 fr, .int .i64 tw, .int .i64 rv, .int .i64 wv, .bool com, .slice rx rn rc, .slice wx wn wc] 33)) = wA at e hA hLb ⊢
      have e0 := e.cell 0 (v := .int .i64 (t : Int)) rfl
      have e2 := e.cell 2 (v := .int .i64 fr) rfl
      have e3 := e.cell 3 (v := .int .i64 tw) rfl
      have HEA := hid e
      have HAA := hid hA
      have HLA := hid hLb
      have HOK := hid hok
      have HROW := hid hrow
      have HTO := hid hto
      have HSETB := hid hset
      have HLE := hid hle0
      have HSZ := hid hsz
      have HCELL := hid hcell
      have HGL := hid hgl
      clear c0 c1 c2 c3 c4 c5 c6 c7 c8 e hA hLb hcw hcell hok hrow hto hset hb0 hl0 hzf w1 hb hle0 hsz hglw hll hk hlt hgl
      by_cases k0 : k = 0
      · have r1 : decide ((0 : Int) < (k : Int)) = false := by rw [k0]; rfl
        have r0 : decide (0 < k) = false := by rw [k0]; rfl
        clear k0
        rcases HTO.out with htw | ⟨htw1, htw2⟩
        · have s1 : (tw != -1) = false := by rw [htw]; rfl
          clear htw
          go_quiet (fail)
          have hbd := ext_drewN (ext_refl wA) nq
          have e := HEA.out.below hbd
          have hA := HAA.out.trans (hbd.mono HAA.out.size)
          have hLb := HLA.out.below hbd
          generalize (wA.drewN nq) = wB at e hA hLb ⊢
          clear hbd HEA HAA HLA e0 e2 e3
          have e0 := e.cell 0 (v := .int .i64 (t : Int)) rfl
          have e1 := e.cell 1 (v := .int .i64 tx) rfl
          have e2 := e.cell 2 (v := .int .i64 fr) rfl
          have e3 := e.cell 3 (v := .int .i64 tw) rfl
          have e4 := e.cell 4 (v := .int .i64 rv) rfl
          have e5 := e.cell 5 (v := .int .i64 wv) rfl
          have e6 := e.cell 6 (v := .bool com) rfl
          have HCA := hid (fun (i : Nat) (hi : i < L.length) (j : Nat) (u : Value) (hj : j < 9) (hu : (attL (L.getD i Att.zero) (H i false) (H i true))[j]? = some u) => (hA.cell (p := ⟨g, i * 9 + j, none⟩) HGL.out).trans (HCELL.out i j u hi hj hu))
          have hlA := hLb.cell t (v := .int .i64 ((lastA L k (t : Int) : Nat) : Int)) (by exact rowL_get L k t ht6)
          have hzA := hLb.free t
          have HEB := hid e
          have HAB := hid hA
          have HLB := hid hLb
          have hwA := e.lt
          have hLA := hLb.lt
          clear e hA hLb
          rcases HROW.out with ⟨hr1, hr2⟩ | ⟨m2, hr1, hr2, hr3, hr4, hr5⟩
          · have HX := hid hr2
            rw [hr1] at hlA
            have u1 : decide ((0 : Int) < ((0 : Nat) : Int)) = false := rfl
            have u2 : (tx != 0) = false := by rw [hr2]; rfl
            clear hr1 hr2
            go_wp2_with fail
            go_roundw
            case rel =>
              refine ⟨k + 1, HLT.out, by rw [show ((k + 1 : Nat) : Int) = (k : Int) + 1 from rfl], hid ?_, hid ?_⟩
              · rw [← HSETB.out]; exact (HLB.out.set t _)
              · exact (HAB.out.setCell (p := ⟨w2.heap.size, t, none⟩) (Nat.le_refl _) _)
            case measure => exact (by have := HLT.out; dsimp only [intOf]; omega)
          · rw [hr1] at hlA
            obtain ⟨a2, ha2⟩ : ∃ a2, L.getD m2 Att.zero = a2 := ⟨_, rfl⟩
            rw [ha2] at hr3 hr4 hr5
            have hm2 : m2 < L.length := Nat.lt_trans hr2 HLT.out
            have hcB := HCA.out m2 hm2
            rw [ha2] at hcB
            obtain ⟨rx2, rc2, hr⟩ := own_is (HOWN.out m2 false hm2)
            obtain ⟨wx2, wc2, hw⟩ := own_is (HOWN.out m2 true hm2)
            rw [hr, hw, ha2] at hcB
            have HOK2 := HA.out m2 hm2
            rw [ha2] at HOK2
            have hcm : a2.tx ≤ 2000 := HTX.out m2 hm2 a2 ha2
            generalize (plB a2 false).length = rn2 at hcB
            generalize (plB a2 true).length = wn2 at hcB
            clear hr hw
            obtain ⟨th2, tx2, fr2, tw2, rv2, wv2, com2, rds2, wrs2⟩ := a2
            dsimp only at hr3 hr4 hr5 hcm
            have b0 := hcB 0 (.int .i64 th2) (by decide) rfl
            have b1 := hcB 1 (.int .i64 tx2) (by decide) rfl
            have b2 := hcB 2 (.int .i64 fr2) (by decide) rfl
            have b3 := hcB 3 (.int .i64 tw2) (by decide) rfl
            have b4 := hcB 4 (.int .i64 rv2) (by decide) rfl
            have b5 := hcB 5 (.int .i64 wv2) (by decide) rfl
            have b6 := hcB 6 (.bool com2) (by decide) rfl
            have b7 := hcB 7 (.slice rx2 rn2 rc2) (by decide) rfl
            have b8 := hcB 8 (.slice wx2 wn2 wc2) (by decide) rfl
            rw [Nat.add_zero] at b0
            have u1 : decide ((0 : Int) < ((m2 + 1 : Nat) : Int)) = true := by rw [decide_eq_true_iff]; omega
            have u3 : IntKind.i64.wrap (((m2 + 1 : Nat) : Int) - 1) = (m2 : Int) := by rw [show ((m2 + 1 : Nat) : Int) - 1 = (m2 : Int) by omega]; exact IntWalk.i64_in _ (by have := HL.out; omega)
            have u4 : decide (m2 < L.length) = true := by rw [decide_eq_true_iff]; exact hm2
            have u5 : (0 : Int) ≤ (m2 : Int) := by omega
            have u6 : (tw2 == -1) = false := beq_eq_false_iff_ne.2 hr3
            have u7 : decide (fr ≤ tw2) = false := decide_eq_false (by omega)
            have htx := HOK2.tx
            dsimp only at htx
            have HR5 := hid hr5
            have HM2 := hid hm2
            have u8 : IntKind.i64.wrap (tx2 + 1) = tx2 + 1 := IntWalk.i64_in _ (by omega)
            have gB := lt_of_cell b0
            generalize ((m2 + 1 : Nat) : Int) = m3 at hlA u1 u3
            clear hr1 hr2 hr3 hr4 hcB HOK2 htx hcm HR5
            cases com2
            · have u9 : (tx != tx2) = false := by rw [show tx = tx2 from hr5.trans (Int.add_zero _)]; simp
              clear hr5
              go_wp2_with fail
              go_roundw
              case rel =>
                refine ⟨k + 1, HLT.out, by rw [show ((k + 1 : Nat) : Int) = (k : Int) + 1 from rfl], hid ?_, hid ?_⟩
                · rw [← HSETB.out]; exact (HLB.out.set t _).alloc _
                · exact (HAB.out.setCell (p := ⟨w2.heap.size, t, none⟩) (Nat.le_refl _) _).alloc (by simp [World.setCell]; exact Nat.le_of_lt hLA) _
              case measure => exact (by have := HLT.out; dsimp only [intOf]; omega)
            · have u9 : (tx != tx2 + 1) = false := by rw [show tx = tx2 + 1 from hr5]; simp
              clear hr5
              go_wp2_with fail
              go_roundw
              case rel =>
                refine ⟨k + 1, HLT.out, by rw [show ((k + 1 : Nat) : Int) = (k : Int) + 1 from rfl], hid ?_, hid ?_⟩
                · rw [← HSETB.out]; exact (HLB.out.set t _).alloc _
                · exact (HAB.out.setCell (p := ⟨w2.heap.size, t, none⟩) (Nat.le_refl _) _).alloc (by simp [World.setCell]; exact Nat.le_of_lt hLA) _
              case measure => exact (by have := HLT.out; dsimp only [intOf]; omega)
        · have s1 : (tw != -1) = true := by rw [bne_iff_ne]; have hf : 0 ≤ fr := HOK.out.from_.1; omega
          have s2 : decide (tw < fr) = false := decide_eq_false (by have hp2 : fr ≤ tw := htw1; omega)
          clear htw1 htw2
          go_quiet (fail)
          have hbd := ext_drewN (ext_refl wA) nq
          have e := HEA.out.below hbd
          have hA := HAA.out.trans (hbd.mono HAA.out.size)
          have hLb := HLA.out.below hbd
          generalize (wA.drewN nq) = wB at e hA hLb ⊢
          clear hbd HEA HAA HLA e0 e2 e3
          have e0 := e.cell 0 (v := .int .i64 (t : Int)) rfl
          have e1 := e.cell 1 (v := .int .i64 tx) rfl
          have e2 := e.cell 2 (v := .int .i64 fr) rfl
          have e3 := e.cell 3 (v := .int .i64 tw) rfl
          have e4 := e.cell 4 (v := .int .i64 rv) rfl
          have e5 := e.cell 5 (v := .int .i64 wv) rfl
          have e6 := e.cell 6 (v := .bool com) rfl
          have HCA := hid (fun (i : Nat) (hi : i < L.length) (j : Nat) (u : Value) (hj : j < 9) (hu : (attL (L.getD i Att.zero) (H i false) (H i true))[j]? = some u) => (hA.cell (p := ⟨g, i * 9 + j, none⟩) HGL.out).trans (HCELL.out i j u hi hj hu))
          have hlA := hLb.cell t (v := .int .i64 ((lastA L k (t : Int) : Nat) : Int)) (by exact rowL_get L k t ht6)
          have hzA := hLb.free t
          have HEB := hid e
          have HAB := hid hA
          have HLB := hid hLb
          have hwA := e.lt
          have hLA := hLb.lt
          clear e hA hLb
          rcases HROW.out with ⟨hr1, hr2⟩ | ⟨m2, hr1, hr2, hr3, hr4, hr5⟩
          · have HX := hid hr2
            rw [hr1] at hlA
            have u1 : decide ((0 : Int) < ((0 : Nat) : Int)) = false := rfl
            have u2 : (tx != 0) = false := by rw [hr2]; rfl
            clear hr1 hr2
            go_wp2_with fail
            go_roundw
            case rel =>
              refine ⟨k + 1, HLT.out, by rw [show ((k + 1 : Nat) : Int) = (k : Int) + 1 from rfl], hid ?_, hid ?_⟩
              · rw [← HSETB.out]; exact (HLB.out.set t _)
              · exact (HAB.out.setCell (p := ⟨w2.heap.size, t, none⟩) (Nat.le_refl _) _)
            case measure => exact (by have := HLT.out; dsimp only [intOf]; omega)
          · rw [hr1] at hlA
            obtain ⟨a2, ha2⟩ : ∃ a2, L.getD m2 Att.zero = a2 := ⟨_, rfl⟩
            rw [ha2] at hr3 hr4 hr5
            have hm2 : m2 < L.length := Nat.lt_trans hr2 HLT.out
            have hcB := HCA.out m2 hm2
            rw [ha2] at hcB
            obtain ⟨rx2, rc2, hr⟩ := own_is (HOWN.out m2 false hm2)
            obtain ⟨wx2, wc2, hw⟩ := own_is (HOWN.out m2 true hm2)
            rw [hr, hw, ha2] at hcB
            have HOK2 := HA.out m2 hm2
            rw [ha2] at HOK2
            have hcm : a2.tx ≤ 2000 := HTX.out m2 hm2 a2 ha2
            generalize (plB a2 false).length = rn2 at hcB
            generalize (plB a2 true).length = wn2 at hcB
            clear hr hw
            obtain ⟨th2, tx2, fr2, tw2, rv2, wv2, com2, rds2, wrs2⟩ := a2
            dsimp only at hr3 hr4 hr5 hcm
            have b0 := hcB 0 (.int .i64 th2) (by decide) rfl
            have b1 := hcB 1 (.int .i64 tx2) (by decide) rfl
            have b2 := hcB 2 (.int .i64 fr2) (by decide) rfl
            have b3 := hcB 3 (.int .i64 tw2) (by decide) rfl
            have b4 := hcB 4 (.int .i64 rv2) (by decide) rfl
            have b5 := hcB 5 (.int .i64 wv2) (by decide) rfl
            have b6 := hcB 6 (.bool com2) (by decide) rfl
            have b7 := hcB 7 (.slice rx2 rn2 rc2) (by decide) rfl
            have b8 := hcB 8 (.slice wx2 wn2 wc2) (by decide) rfl
            rw [Nat.add_zero] at b0
            have u1 : decide ((0 : Int) < ((m2 + 1 : Nat) : Int)) = true := by rw [decide_eq_true_iff]; omega
            have u3 : IntKind.i64.wrap (((m2 + 1 : Nat) : Int) - 1) = (m2 : Int) := by rw [show ((m2 + 1 : Nat) : Int) - 1 = (m2 : Int) by omega]; exact IntWalk.i64_in _ (by have := HL.out; omega)
            have u4 : decide (m2 < L.length) = true := by rw [decide_eq_true_iff]; exact hm2
            have u5 : (0 : Int) ≤ (m2 : Int) := by omega
            have u6 : (tw2 == -1) = false := beq_eq_false_iff_ne.2 hr3
            have u7 : decide (fr ≤ tw2) = false := decide_eq_false (by omega)
            have htx := HOK2.tx
            dsimp only at htx
            have HR5 := hid hr5
            have HM2 := hid hm2
            have u8 : IntKind.i64.wrap (tx2 + 1) = tx2 + 1 := IntWalk.i64_in _ (by omega)
            have gB := lt_of_cell b0
            generalize ((m2 + 1 : Nat) : Int) = m3 at hlA u1 u3
            clear hr1 hr2 hr3 hr4 hcB HOK2 htx hcm HR5
            cases com2
            · have u9 : (tx != tx2) = false := by rw [show tx = tx2 from hr5.trans (Int.add_zero _)]; simp
              clear hr5
              go_wp2_with fail
              go_roundw
              case rel =>
                refine ⟨k + 1, HLT.out, by rw [show ((k + 1 : Nat) : Int) = (k : Int) + 1 from rfl], hid ?_, hid ?_⟩
                · rw [← HSETB.out]; exact (HLB.out.set t _).alloc _
                · exact (HAB.out.setCell (p := ⟨w2.heap.size, t, none⟩) (Nat.le_refl _) _).alloc (by simp [World.setCell]; exact Nat.le_of_lt hLA) _
              case measure => exact (by have := HLT.out; dsimp only [intOf]; omega)
            · have u9 : (tx != tx2 + 1) = false := by rw [show tx = tx2 + 1 from hr5]; simp
              clear hr5
              go_wp2_with fail
              go_roundw
              case rel =>
                refine ⟨k + 1, HLT.out, by rw [show ((k + 1 : Nat) : Int) = (k : Int) + 1 from rfl], hid ?_, hid ?_⟩
                · rw [← HSETB.out]; exact (HLB.out.set t _).alloc _
                · exact (HAB.out.setCell (p := ⟨w2.heap.size, t, none⟩) (Nat.le_refl _) _).alloc (by simp [World.setCell]; exact Nat.le_of_lt hLA) _
              case measure => exact (by have := HLT.out; dsimp only [intOf]; omega)
      · obtain ⟨m, hm⟩ : ∃ m, k = m + 1 := ⟨k - 1, by omega⟩
        have r1 : decide ((0 : Int) < (k : Int)) = true := by rw [decide_eq_true_iff]; omega
        have r0 : decide (0 < k) = true := by rw [decide_eq_true_iff]; omega
        have r2 : IntKind.i64.wrap ((k : Int) - 1) = (m : Int) := by rw [show (k : Int) - 1 = (m : Int) by omega]; exact IntWalk.i64_in _ (by have := HL.out; have := HKL.out; omega)
        have hml : m < L.length := by have := HLT.out; omega
        have r3 : decide (m < L.length) = true := by rw [decide_eq_true_iff]; exact hml
        have r4 : (0 : Int) ≤ (m : Int) := by omega
        have hpm := HP.out m (by have := HLT.out; omega)
        rw [← hm, hbe2] at hpm
        have cm := (HAA.out.cell (p := ⟨g, m * 9 + 2, none⟩) HGL.out).trans (HCELL.out m 2 (.int .i64 (L.getD m Att.zero).from_) hml (by decide) rfl)
        generalize (L.getD m Att.zero).from_ = fa at cm hpm
        have r5 : decide (fr ≤ fa) = false := decide_eq_false (by have hp2 : fa < fr := hpm; omega)
        have gm := lt_of_cell cm
        have HML := hid hml
        clear hpm hm
        have hmi : (m : Int) < (L.length : Int) := by omega
        rcases HTO.out with htw | ⟨htw1, htw2⟩
        · have s1 : (tw != -1) = false := by rw [htw]; rfl
          clear htw
          go_quiet (fail)
          have hbd := ext_drewN (ext_refl wA) nq
          have e := HEA.out.below hbd
          have hA := HAA.out.trans (hbd.mono HAA.out.size)
          have hLb := HLA.out.below hbd
          generalize (wA.drewN nq) = wB at e hA hLb ⊢
          clear hbd HEA HAA HLA e0 e2 e3
          have e0 := e.cell 0 (v := .int .i64 (t : Int)) rfl
          have e1 := e.cell 1 (v := .int .i64 tx) rfl
          have e2 := e.cell 2 (v := .int .i64 fr) rfl
          have e3 := e.cell 3 (v := .int .i64 tw) rfl
          have e4 := e.cell 4 (v := .int .i64 rv) rfl
          have e5 := e.cell 5 (v := .int .i64 wv) rfl
          have e6 := e.cell 6 (v := .bool com) rfl
          have HCA := hid (fun (i : Nat) (hi : i < L.length) (j : Nat) (u : Value) (hj : j < 9) (hu : (attL (L.getD i Att.zero) (H i false) (H i true))[j]? = some u) => (hA.cell (p := ⟨g, i * 9 + j, none⟩) HGL.out).trans (HCELL.out i j u hi hj hu))
          have hlA := hLb.cell t (v := .int .i64 ((lastA L k (t : Int) : Nat) : Int)) (by exact rowL_get L k t ht6)
          have hzA := hLb.free t
          have HEB := hid e
          have HAB := hid hA
          have HLB := hid hLb
          have hwA := e.lt
          have hLA := hLb.lt
          clear e hA hLb
          rcases HROW.out with ⟨hr1, hr2⟩ | ⟨m2, hr1, hr2, hr3, hr4, hr5⟩
          · have HX := hid hr2
            rw [hr1] at hlA
            have u1 : decide ((0 : Int) < ((0 : Nat) : Int)) = false := rfl
            have u2 : (tx != 0) = false := by rw [hr2]; rfl
            clear hr1 hr2
            go_wp2_with fail
            go_roundw
            case rel =>
              refine ⟨k + 1, HLT.out, by rw [show ((k + 1 : Nat) : Int) = (k : Int) + 1 from rfl], hid ?_, hid ?_⟩
              · rw [← HSETB.out]; exact (HLB.out.set t _)
              · exact (HAB.out.setCell (p := ⟨w2.heap.size, t, none⟩) (Nat.le_refl _) _)
            case measure => exact (by have := HLT.out; dsimp only [intOf]; omega)
          · rw [hr1] at hlA
            obtain ⟨a2, ha2⟩ : ∃ a2, L.getD m2 Att.zero = a2 := ⟨_, rfl⟩
            rw [ha2] at hr3 hr4 hr5
            have hm2 : m2 < L.length := Nat.lt_trans hr2 HLT.out
            have hcB := HCA.out m2 hm2
            rw [ha2] at hcB
            obtain ⟨rx2, rc2, hr⟩ := own_is (HOWN.out m2 false hm2)
            obtain ⟨wx2, wc2, hw⟩ := own_is (HOWN.out m2 true hm2)
            rw [hr, hw, ha2] at hcB
            have HOK2 := HA.out m2 hm2
            rw [ha2] at HOK2
            have hcm : a2.tx ≤ 2000 := HTX.out m2 hm2 a2 ha2
            generalize (plB a2 false).length = rn2 at hcB
            generalize (plB a2 true).length = wn2 at hcB
            clear hr hw
            obtain ⟨th2, tx2, fr2, tw2, rv2, wv2, com2, rds2, wrs2⟩ := a2
            dsimp only at hr3 hr4 hr5 hcm
            have b0 := hcB 0 (.int .i64 th2) (by decide) rfl
            have b1 := hcB 1 (.int .i64 tx2) (by decide) rfl
            have b2 := hcB 2 (.int .i64 fr2) (by decide) rfl
            have b3 := hcB 3 (.int .i64 tw2) (by decide) rfl
            have b4 := hcB 4 (.int .i64 rv2) (by decide) rfl
            have b5 := hcB 5 (.int .i64 wv2) (by decide) rfl
            have b6 := hcB 6 (.bool com2) (by decide) rfl
            have b7 := hcB 7 (.slice rx2 rn2 rc2) (by decide) rfl
            have b8 := hcB 8 (.slice wx2 wn2 wc2) (by decide) rfl
            rw [Nat.add_zero] at b0
            have u1 : decide ((0 : Int) < ((m2 + 1 : Nat) : Int)) = true := by rw [decide_eq_true_iff]; omega
            have u3 : IntKind.i64.wrap (((m2 + 1 : Nat) : Int) - 1) = (m2 : Int) := by rw [show ((m2 + 1 : Nat) : Int) - 1 = (m2 : Int) by omega]; exact IntWalk.i64_in _ (by have := HL.out; omega)
            have u4 : decide (m2 < L.length) = true := by rw [decide_eq_true_iff]; exact hm2
            have u5 : (0 : Int) ≤ (m2 : Int) := by omega
            have u6 : (tw2 == -1) = false := beq_eq_false_iff_ne.2 hr3
            have u7 : decide (fr ≤ tw2) = false := decide_eq_false (by omega)
            have htx := HOK2.tx
            dsimp only at htx
            have HR5 := hid hr5
            have HM2 := hid hm2
            have u8 : IntKind.i64.wrap (tx2 + 1) = tx2 + 1 := IntWalk.i64_in _ (by omega)
            have gB := lt_of_cell b0
            generalize ((m2 + 1 : Nat) : Int) = m3 at hlA u1 u3
            clear hr1 hr2 hr3 hr4 hcB HOK2 htx hcm HR5
            cases com2
            · have u9 : (tx != tx2) = false := by rw [show tx = tx2 from hr5.trans (Int.add_zero _)]; simp
              clear hr5
              go_wp2_with fail
              go_roundw
              case rel =>
                refine ⟨k + 1, HLT.out, by rw [show ((k + 1 : Nat) : Int) = (k : Int) + 1 from rfl], hid ?_, hid ?_⟩
                · rw [← HSETB.out]; exact (HLB.out.set t _).alloc _
                · exact (HAB.out.setCell (p := ⟨w2.heap.size, t, none⟩) (Nat.le_refl _) _).alloc (by simp [World.setCell]; exact Nat.le_of_lt hLA) _
              case measure => exact (by have := HLT.out; dsimp only [intOf]; omega)
            · have u9 : (tx != tx2 + 1) = false := by rw [show tx = tx2 + 1 from hr5]; simp
              clear hr5
              go_wp2_with fail
              go_roundw
              case rel =>
                refine ⟨k + 1, HLT.out, by rw [show ((k + 1 : Nat) : Int) = (k : Int) + 1 from rfl], hid ?_, hid ?_⟩
                · rw [← HSETB.out]; exact (HLB.out.set t _).alloc _
                · exact (HAB.out.setCell (p := ⟨w2.heap.size, t, none⟩) (Nat.le_refl _) _).alloc (by simp [World.setCell]; exact Nat.le_of_lt hLA) _
              case measure => exact (by have := HLT.out; dsimp only [intOf]; omega)
        · have s1 : (tw != -1) = true := by rw [bne_iff_ne]; have hf : 0 ≤ fr := HOK.out.from_.1; omega
          have s2 : decide (tw < fr) = false := decide_eq_false (by have hp2 : fr ≤ tw := htw1; omega)
          clear htw1 htw2
          go_quiet (fail)
          have hbd := ext_drewN (ext_refl wA) nq
          have e := HEA.out.below hbd
          have hA := HAA.out.trans (hbd.mono HAA.out.size)
          have hLb := HLA.out.below hbd
          generalize (wA.drewN nq) = wB at e hA hLb ⊢
          clear hbd HEA HAA HLA e0 e2 e3
          have e0 := e.cell 0 (v := .int .i64 (t : Int)) rfl
          have e1 := e.cell 1 (v := .int .i64 tx) rfl
          have e2 := e.cell 2 (v := .int .i64 fr) rfl
          have e3 := e.cell 3 (v := .int .i64 tw) rfl
          have e4 := e.cell 4 (v := .int .i64 rv) rfl
          have e5 := e.cell 5 (v := .int .i64 wv) rfl
          have e6 := e.cell 6 (v := .bool com) rfl
          have HCA := hid (fun (i : Nat) (hi : i < L.length) (j : Nat) (u : Value) (hj : j < 9) (hu : (attL (L.getD i Att.zero) (H i false) (H i true))[j]? = some u) => (hA.cell (p := ⟨g, i * 9 + j, none⟩) HGL.out).trans (HCELL.out i j u hi hj hu))
          have hlA := hLb.cell t (v := .int .i64 ((lastA L k (t : Int) : Nat) : Int)) (by exact rowL_get L k t ht6)
          have hzA := hLb.free t
          have HEB := hid e
          have HAB := hid hA
          have HLB := hid hLb
          have hwA := e.lt
          have hLA := hLb.lt
          clear e hA hLb
          rcases HROW.out with ⟨hr1, hr2⟩ | ⟨m2, hr1, hr2, hr3, hr4, hr5⟩
          · have HX := hid hr2
            rw [hr1] at hlA
            have u1 : decide ((0 : Int) < ((0 : Nat) : Int)) = false := rfl
            have u2 : (tx != 0) = false := by rw [hr2]; rfl
            clear hr1 hr2
            go_wp2_with fail
            go_roundw
            case rel =>
              refine ⟨k + 1, HLT.out, by rw [show ((k + 1 : Nat) : Int) = (k : Int) + 1 from rfl], hid ?_, hid ?_⟩
              · rw [← HSETB.out]; exact (HLB.out.set t _)
              · exact (HAB.out.setCell (p := ⟨w2.heap.size, t, none⟩) (Nat.le_refl _) _)
            case measure => exact (by have := HLT.out; dsimp only [intOf]; omega)
          · rw [hr1] at hlA
            obtain ⟨a2, ha2⟩ : ∃ a2, L.getD m2 Att.zero = a2 := ⟨_, rfl⟩
            rw [ha2] at hr3 hr4 hr5
            have hm2 : m2 < L.length := Nat.lt_trans hr2 HLT.out
            have hcB := HCA.out m2 hm2
            rw [ha2] at hcB
            obtain ⟨rx2, rc2, hr⟩ := own_is (HOWN.out m2 false hm2)
            obtain ⟨wx2, wc2, hw⟩ := own_is (HOWN.out m2 true hm2)
            rw [hr, hw, ha2] at hcB
            have HOK2 := HA.out m2 hm2
            rw [ha2] at HOK2
            have hcm : a2.tx ≤ 2000 := HTX.out m2 hm2 a2 ha2
            generalize (plB a2 false).length = rn2 at hcB
            generalize (plB a2 true).length = wn2 at hcB
            clear hr hw
            obtain ⟨th2, tx2, fr2, tw2, rv2, wv2, com2, rds2, wrs2⟩ := a2
            dsimp only at hr3 hr4 hr5 hcm
            have b0 := hcB 0 (.int .i64 th2) (by decide) rfl
            have b1 := hcB 1 (.int .i64 tx2) (by decide) rfl
            have b2 := hcB 2 (.int .i64 fr2) (by decide) rfl
            have b3 := hcB 3 (.int .i64 tw2) (by decide) rfl
            have b4 := hcB 4 (.int .i64 rv2) (by decide) rfl
            have b5 := hcB 5 (.int .i64 wv2) (by decide) rfl
            have b6 := hcB 6 (.bool com2) (by decide) rfl
            have b7 := hcB 7 (.slice rx2 rn2 rc2) (by decide) rfl
            have b8 := hcB 8 (.slice wx2 wn2 wc2) (by decide) rfl
            rw [Nat.add_zero] at b0
            have u1 : decide ((0 : Int) < ((m2 + 1 : Nat) : Int)) = true := by rw [decide_eq_true_iff]; omega
            have u3 : IntKind.i64.wrap (((m2 + 1 : Nat) : Int) - 1) = (m2 : Int) := by rw [show ((m2 + 1 : Nat) : Int) - 1 = (m2 : Int) by omega]; exact IntWalk.i64_in _ (by have := HL.out; omega)
            have u4 : decide (m2 < L.length) = true := by rw [decide_eq_true_iff]; exact hm2
            have u5 : (0 : Int) ≤ (m2 : Int) := by omega
            have u6 : (tw2 == -1) = false := beq_eq_false_iff_ne.2 hr3
            have u7 : decide (fr ≤ tw2) = false := decide_eq_false (by omega)
            have htx := HOK2.tx
            dsimp only at htx
            have HR5 := hid hr5
            have HM2 := hid hm2
            have u8 : IntKind.i64.wrap (tx2 + 1) = tx2 + 1 := IntWalk.i64_in _ (by omega)
            have gB := lt_of_cell b0
            generalize ((m2 + 1 : Nat) : Int) = m3 at hlA u1 u3
            clear hr1 hr2 hr3 hr4 hcB HOK2 htx hcm HR5
            cases com2
            · have u9 : (tx != tx2) = false := by rw [show tx = tx2 from hr5.trans (Int.add_zero _)]; simp
              clear hr5
              go_wp2_with fail
              go_roundw
              case rel =>
                refine ⟨k + 1, HLT.out, by rw [show ((k + 1 : Nat) : Int) = (k : Int) + 1 from rfl], hid ?_, hid ?_⟩
                · rw [← HSETB.out]; exact (HLB.out.set t _).alloc _
                · exact (HAB.out.setCell (p := ⟨w2.heap.size, t, none⟩) (Nat.le_refl _) _).alloc (by simp [World.setCell]; exact Nat.le_of_lt hLA) _
              case measure => exact (by have := HLT.out; dsimp only [intOf]; omega)
            · have u9 : (tx != tx2 + 1) = false := by rw [show tx = tx2 + 1 from hr5]; simp
              clear hr5
              go_wp2_with fail
              go_roundw
              case rel =>
                refine ⟨k + 1, HLT.out, by rw [show ((k + 1 : Nat) : Int) = (k : Int) + 1 from rfl], hid ?_, hid ?_⟩
                · rw [← HSETB.out]; exact (HLB.out.set t _).alloc _
                · exact (HAB.out.setCell (p := ⟨w2.heap.size, t, none⟩) (Nat.le_refl _) _).alloc (by simp [World.setCell]; exact Nat.le_of_lt hLA) _
              case measure => exact (by have := HLT.out; dsimp only [intOf]; omega)
    · obtain rfl : k = L.length := by omega
      have j1 : decide ((L.length : Int) < (L.length : Int)) = false := by rw [decide_eq_false_iff_not]; omega
      have j4 : decide (L.length < L.length) = false := by rw [decide_eq_false_iff_not]; omega
      go_wp2_with fail
      go_ret
      exact ⟨rfl, ext_trans HB2.out HBR.out⟩
theorem historyRow_any (T V S : Int) (a : Option Addr) (l : List Ev) (cap : Nat) (w : World) (hE : EvsAt w a l) (hK : KindsAt w) (hT : TabOk w) :
    Calls Tryd.prog 3 #[trA T V S a l.length cap] w fun e w' => e = .returned (.bool true) ∧ Below w.heap.size w w' := by
  by_cases hl : l.length ≤ 2000
  · by_cases hc : (checkT T V S l).2 = 0
    · exact row_loop T V S a l cap w hl hc hE hK hT
    · exact row_no T V S a l cap w hl hc hE hK hT
  · exact row_great T V S a l.length cap w (by omega) hK hT
end Go.Proofs.YtjckgagkkknmnaaDoor

