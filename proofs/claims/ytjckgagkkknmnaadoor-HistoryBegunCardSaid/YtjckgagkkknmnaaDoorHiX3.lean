/-
  The law HistoryBegun: its walk (printed by tools/gen_hix3.py).
-/
import Derived.Test.YtjckgagkkknmnaaDoorHiG7
import Derived.Test.YtjckgagkkknmnaaDoorHiB
namespace Go.Proofs.YtjckgagkkknmnaaDoor
set_option linter.unusedVariables false
set_option linter.unusedSimpArgs false
set_option linter.unusedVariables false
open Go Go.RowKit
theorem evs_take {w : World} {a : Option Addr} {l : List Ev} (h : EvsAt w a l) (k : Nat) : EvsAt w a (l.take k) := by
  refine ⟨fun e he => h.1 e (List.mem_of_mem_take he), fun hn => ?_⟩
  obtain ⟨b, o, h1, h2⟩ := h.2 (by rintro rfl; exact hn (by simp))
  refine ⟨b, o, h1, fun i hi j v hv => ?_⟩
  have hi' : i < l.length := by rw [List.length_take] at hi; omega
  exact h2 i hi' j v (by rw [List.getElem_take] at hv; exact hv)
theorem Hist.check {T V S : Int} {l : List Ev} {s : Sh} (h : Hist T V S l s) (hl : l.length ≤ 1048576) : (checkT T V S l).2 = 0 := by
  unfold checkT
  rw [if_neg (by rw [h.size]; decide), if_neg (by omega)]
  have := (comes_iff l (newS T V S)).2 (by rw [h.run]; rfl)
  rw [if_neg (by omega)]
set_option maxRecDepth 100000 in
set_option maxHeartbeats 4000000 in
theorem begun_great (T V S : Int) (a : Option Addr) (len cap : Nat) (n : Int) (w : World) (hl : 2000 < len) (hK : KindsAt w) (hT : TabOk w) :
    Calls Tryd.prog 5 #[trA T V S a len cap, .int .i64 n] w fun e w' => e = .returned (.bool true) ∧ Below w.heap.size w w' := by
  have HW := hid (fun W (hW : Below w.heap.size w W) => Rk.works_any W (hK.below hW) (hT.below hW))
  have j : decide ((2000 : Int) < (len : Int)) = true := by rw [decide_eq_true_iff]; omega
  clear hl hK hT
  dsimp only [trA]
  have HB : Hid (Below w.heap.size w (w.alloc (.cells #[.int .i64 T, .int .i64 V, .int .i64 S, .slice a len cap] 24))) := hid (ext_alloc (ext_refl _) _)
  have d := Blk.new w #[.int .i64 T, .int .i64 V, .int .i64 S, .slice a len cap] 24
  go_enter Tryd.func5, Tryd.ntmps5
  go_wp2_with fail
  refine (HW.out _ HB.out).mono ?_
  rintro e' w1 ⟨rfl, hb1⟩
  have d3 := later hb1 (d.cell 3 rfl)
  have HB1 := hid (ext_trans HB.out hb1)
  clear hb1 d
  go_wp2_with fail
  refine (HW.out _ HB1.out).mono ?_
  rintro e' w2 ⟨rfl, hb2⟩
  have HB2 := hid (ext_trans HB1.out hb2)
  clear hb2
  go_wp2_with fail
  go_ret
  exact ⟨rfl, HB2.out⟩

set_option maxRecDepth 100000 in
set_option maxHeartbeats 4000000 in
theorem begun_no (T V S : Int) (a : Option Addr) (l : List Ev) (cap : Nat) (n : Int) (w : World) (hl : l.length ≤ 2000) (hc : (checkT T V S l).2 ≠ 0) (hE : EvsAt w a l) (hK : KindsAt w) (hT : TabOk w) :
    Calls Tryd.prog 5 #[trA T V S a l.length cap, .int .i64 n] w fun e w' => e = .returned (.bool true) ∧ Below w.heap.size w w' := by
  have HW := hid (fun W (hW : Below w.heap.size w W) => Rk.works_any W (hK.below hW) (hT.below hW))
  have HC := hid (fun W (hW : Below w.heap.size w W) => of_any T V S a l cap W (hE.below hW) (hK.below hW) (hT.below hW))
  have j : decide ((2000 : Int) < (l.length : Int)) = false := by rw [decide_eq_false_iff_not]; omega
  unfold OfP at HC
  obtain ⟨q, hq⟩ : ∃ q, (checkT T V S l).2 = q := ⟨_, rfl⟩
  rw [hq] at HC hc
  have g1 : (q == 0) = false := beq_eq_false_iff_ne.2 hc
  have g2 : (q != 0) = true := bne_iff_ne.2 hc
  clear hl hK hT hE hc hq
  dsimp only [trA] at HC ⊢
  have HB : Hid (Below w.heap.size w (w.alloc (.cells #[.int .i64 T, .int .i64 V, .int .i64 S, .slice a l.length cap] 24))) := hid (ext_alloc (ext_refl _) _)
  have d := Blk.new w #[.int .i64 T, .int .i64 V, .int .i64 S, .slice a l.length cap] 24
  go_enter Tryd.func5, Tryd.ntmps5
  go_wp2_with fail
  refine (HW.out _ HB.out).mono ?_
  rintro e' w1 ⟨rfl, hb1⟩
  have d0 := later hb1 (d.cell 0 rfl)
  have d1 := later hb1 (d.cell 1 rfl)
  have d2 := later hb1 (d.cell 2 rfl)
  have d3 := later hb1 (d.cell 3 rfl)
  have HB1 := hid (ext_trans HB.out hb1)
  clear hb1 d
  go_wp2_with fail
  refine (HC.out _ HB1.out).mono ?_
  rintro e' w2 ⟨vo, rfl, hb2, hat⟩
  have HB2 := hid (ext_trans HB1.out hb2)
  clear hb2 hat
  go_wp2_with fail
  go_ret
  exact ⟨rfl, HB2.out⟩

set_option maxRecDepth 100000 in
set_option maxHeartbeats 40000000 in
theorem begun_loop (T V S : Int) (a : Option Addr) (l : List Ev) (cap : Nat) (n : Int) (w : World) (hl : l.length ≤ 2000) (hcap : l.length ≤ cap) (hc : (checkT T V S l).2 = 0) (hE : EvsAt w a l) (hK : KindsAt w) (hT : TabOk w) :
    Calls Tryd.prog 5 #[trA T V S a l.length cap, .int .i64 n] w fun e w' => e = .returned (.bool true) ∧ Below w.heap.size w w' := by
  have HW := hid (fun W (hW : Below w.heap.size w W) => Rk.works_any W (hK.below hW) (hT.below hW))
  have HC := hid (fun W (hW : Below w.heap.size w W) => of_any T V S a l cap W (hE.below hW) (hK.below hW) (hT.below hW))
  have j : decide ((2000 : Int) < (l.length : Int)) = false := by rw [decide_eq_false_iff_not]; omega
  obtain ⟨hz, hmax, s, hs⟩ := checkT_fine hc
  have hz' := sizeOk_of hz
  have hI := hs.hi
  unfold OfP at HC
  rw [hc, if_pos rfl] at HC
  obtain ⟨L, hL⟩ : ∃ L, (histT l).out = L := ⟨_, rfl⟩
  have hLl : L.length ≤ 2000 := by
    have := hist_len l newH 0
    have h0 : newH.out.length = 0 := rfl
    rw [← hL]
    show (histF newH 0 l).out.length ≤ 2000
    omega
  have hLg : ∀ k, k < L.length → (histT l).out[k]? = some (L.getD k Att.zero) := fun k hk => by rw [hL]; exact get?_getD _ hk
  obtain ⟨k, hk⟩ : ∃ k : Nat, n % 18446744073709551616 % ((l.length : Int) + 1) = (k : Int) := Int.eq_ofNat_of_zero_le (Int.emod_nonneg _ (by omega))
  have hkl : k ≤ l.length := by
    have := Int.emod_lt_of_pos (n % 18446744073709551616) (show (0 : Int) < (l.length : Int) + 1 by omega)
    omega
  obtain ⟨r, hr⟩ := hs.take k
  have hlk : (l.take k).length = k := by rw [List.length_take]; omega
  have HC2 := hid (fun W (hW : Below w.heap.size w W) => of_any T V S a (l.take k) cap W ((evs_take hE k).below hW) (hK.below hW) (hT.below hW))
  unfold OfP at HC2
  rw [hr.check (by omega), if_pos rfl, hlk] at HC2
  obtain ⟨M, hM⟩ : ∃ M, (histT (l.take k)).out = M := ⟨_, rfl⟩
  have hG := hs.grown hkl
  have hF : ∀ i, i < M.length → (M.getD i Att.zero).from_ < k := fun i hi => by
    have h1 := (hr.hi.att i (M.getD i Att.zero) (by rw [hM]; exact get?_getD _ hi)).from_.2
    rw [hlk] at h1; exact h1
  rw [hM] at HC2 hG
  rw [hL] at hG
  have HG := hid hG
  have HF := hid hF
  have hk2 : wrap64 ((IntKind.u64.wrap n).tmod ((l.length : Int) + 1)) = (k : Int) := by
    rw [IntKind.wrap_u64, Int.tmod_eq_emod_of_nonneg (by omega), hk]
    unfold wrap64; omega
  have jk : (0 : Int) ≤ (k : Int) := by omega
  have jk2 : (k : Int) ≤ (cap : Int) := by omega
  have HK := hid hk
  have HKL := hid hkl
  have HCAP := hid hcap
  have i1 : decide ((k : Int) ≤ (l.length : Int)) = true := by rw [decide_eq_true_iff]; omega
  have i2 : decide (k ≤ l.length) = true := by rw [decide_eq_true_iff]; exact hkl
  have hml : M.length ≤ L.length := hG.len
  have g1 : decide ((L.length : Int) < (M.length : Int)) = false := by rw [decide_eq_false_iff_not]; omega
  have g2 : decide (L.length < M.length) = false := by rw [decide_eq_false_iff_not]; omega
  have hl9 : l.length ≤ 2000 := hl
  clear hk hkl hr hlk hG hF hM hcap hml
  rw [hL] at HC
  have HL := hid hLl
  clear hLg hl hK hT hE hc hz hz' hs hI hL hLl hmax
  dsimp only [trA] at HC ⊢
  have HB : Hid (Below w.heap.size w (w.alloc (.cells #[.int .i64 T, .int .i64 V, .int .i64 S, .slice a l.length cap] 24))) := hid (ext_alloc (ext_refl _) _)
  have d := Blk.new w #[.int .i64 T, .int .i64 V, .int .i64 S, .slice a l.length cap] 24
  go_enter Tryd.func5, Tryd.ntmps5
  go_wp2_with fail
  refine (HW.out _ HB.out).mono ?_
  rintro e' w1 ⟨rfl, hb1⟩
  have d0 := later hb1 (d.cell 0 rfl)
  have d1 := later hb1 (d.cell 1 rfl)
  have d2 := later hb1 (d.cell 2 rfl)
  have d3 := later hb1 (d.cell 3 rfl)
  have HB1 := hid (ext_trans HB.out hb1)
  clear hb1 d
  go_wp2_with fail
  refine (HC.out _ HB1.out).mono ?_
  rintro e' w2 ⟨vo, rfl, hb2, hat⟩
  have HB2 := hid (ext_trans HB1.out hb2)
  have HAT := hid hat
  obtain ⟨cv, hlen⟩ : ∃ g c, vo = .slice g L.length c := by
    obtain ⟨H, h1, _⟩ := hat
    obtain ⟨x, c, rfl⟩ := own_is h1
    exact ⟨_, _, rfl⟩
  obtain ⟨cc, rfl⟩ := hlen
  have f0 := later hb2 d0
  have f1 := later hb2 d1
  have f2 := later hb2 d2
  have f3 := later hb2 d3
  clear hb2 hat d0 d1 d2 d3
  dsimp only [trA] at HC2
  have HB3 : Hid (Below w.heap.size w (w2.alloc (.cells #[.int .i64 T, .int .i64 V, .int .i64 S, .slice a k cap] 24))) := hid (ext_alloc HB2.out _)
  have HB23 : Hid (Below w2.heap.size w2 (w2.alloc (.cells #[.int .i64 T, .int .i64 V, .int .i64 S, .slice a k cap] 24))) := hid (ext_alloc (ext_refl _) _)
  have g3 := cell_alloc (x := .cells #[.int .i64 T, .int .i64 V, .int .i64 S, .slice a l.length cap] 24) f3
  go_wp2_with fail
  refine (HC2.out _ HB3.out).mono ?_
  rintro e' w3 ⟨vm, rfl, hb3, hatm⟩
  have HB4 := hid (ext_trans HB3.out hb3)
  have HBX := hid (ext_trans HB23.out hb3)
  have HAM := hid hatm
  obtain ⟨mc, hmlen⟩ : ∃ g c, vm = .slice g M.length c := by
    obtain ⟨H, h1, _⟩ := hatm
    obtain ⟨x, c, rfl⟩ := own_is h1
    exact ⟨_, _, rfl⟩
  obtain ⟨mcc, rfl⟩ := hmlen
  clear hb3 hatm g3 f0 f1 f2 f3 HB3 HB23
  go_wp2_with fail
  go_loopw [11] (fun i wr => ∃ j : Nat, j ≤ L.length ∧ i = .int .i64 (j : Int) ∧ Hid (Below w3.heap.size w3 wr)) (fun i _ => L.length - (intOf i).toNat)
  case atStart => exact ⟨0, Nat.zero_le _, rfl, hid (ext_refl _)⟩
  case round =>
    obtain ⟨q, hq, rfl, HBR⟩ := hrel
    by_cases hlt : q < L.length
    · have HLT := hid hlt
      have j1 : decide ((q : Int) < (L.length : Int)) = true := by rw [decide_eq_true_iff]; omega
      have j2 : (0 : Int) ≤ (q : Int) := by omega
      have j3 : IntKind.i64.wrap ((q : Int) + 1) = (q : Int) + 1 := IntWalk.i64_in _ (by have := HL.out; omega)
      have j4 : decide (q < L.length) = true := by rw [decide_eq_true_iff]; omega
      have j5 : (q : Int) < (L.length : Int) := by omega
      obtain ⟨g, c, H, hsl, hgl, hcell, hown⟩ := HAT.out.cells (by omega)
      cases hsl
      have hcw : ∀ (j : Nat) (u : Value), j < 9 → (attL (L.getD q Att.zero) (H q false) (H q true))[j]? = some u → wr.cell? ⟨g, q * 9 + j, none⟩ = some u := fun j u hj hu => later HBR.out (later HBX.out (hcell q j u hlt hj hu))
      have hownR := hown q false hlt
      have hownW := hown q true hlt
      have c2 := hcw 2 (.int .i64 (L.getD q Att.zero).from_) (by decide) rfl
      have hgw := lt_of_cell c2
      by_cases hm : q < M.length
      · have HMT := hid hm
        have m1 : decide ((q : Int) < (M.length : Int)) = true := by rw [decide_eq_true_iff]; omega
        have m2 : (0 : Int) ≤ (q : Int) := by omega
        have m3 : IntKind.i64.wrap ((q : Int) + 1) = (q : Int) + 1 := IntWalk.i64_in _ (by have := HL.out; omega)
        have m4 : decide (q < M.length) = true := by rw [decide_eq_true_iff]; omega
        have m5 : (q : Int) < (M.length : Int) := by omega
        have m6 : decide ((M.length : Int) ≤ (q : Int)) = false := by rw [decide_eq_false_iff_not]; omega
        have m7 : decide (M.length ≤ q) = false := by rw [decide_eq_false_iff_not]; omega
        have hsub := HG.out.old q hm
        have hfr := HF.out q hm
        obtain ⟨g2', c', H2, hsl, hgl2, hcell2, hown2⟩ := HAM.out.cells (by omega)
        cases hsl
        have hcw2 : ∀ (j : Nat) (u : Value), j < 9 → (attL (M.getD q Att.zero) (H2 q false) (H2 q true))[j]? = some u → wr.cell? ⟨g2', q * 9 + j, none⟩ = some u := fun j u hj hu => later HBR.out (hcell2 q j u hm hj hu)
        have hownR2 := hown2 q false hm
        have hownW2 := hown2 q true hm
        obtain ⟨B, hB⟩ : ∃ B, L.getD q Att.zero = B := ⟨_, rfl⟩
        obtain ⟨A, hA⟩ : ∃ A, M.getD q Att.zero = A := ⟨_, rfl⟩
        rw [hB] at hsub hcw hownR hownW c2
        rw [hA] at hsub hfr hcw2 hownR2 hownW2
        obtain ⟨th, tx, fr, tw, rv, wv, com, rds, wrs⟩ := B
        obtain ⟨th2, tx2, fr2, tw2, rv2, wv2, com2, rds2, wrs2⟩ := A
        obtain ⟨s1, s2, s3, s4, s5, s6, s7, s8, s9⟩ := hsub
        dsimp only at s1 s2 s3 s4 s5 s6 s7 s8 s9 hfr c2
        subst s1; subst s2; subst s3; subst s4
        have hownR : w2.ownsRow w1.heap.size 36 2 (H q false) rds.length (pairsL rds) := hownR
        have hownR2 : w3.ownsRow _ 36 2 (H2 q false) rds2.length (pairsL rds2) := hownR2
        obtain ⟨rx, rc, hr⟩ := own_is hownR
        obtain ⟨rx2, rc2, hr2⟩ := own_is hownR2
        rw [hr] at hcw
        rw [hr2] at hcw2
        have hlr : rds2.length ≤ rds.length := (s5).length_le
        generalize rds.length = rn at hlr hcw
        generalize rds2.length = rn2 at hlr hcw2
        have lr1 : decide ((rn : Int) < (rn2 : Int)) = false := by rw [decide_eq_false_iff_not]; omega
        have lr2 : decide (rn < rn2) = false := by rw [decide_eq_false_iff_not]; omega
        have hownW : w2.ownsRow w1.heap.size 36 2 (H q true) wrs.length (pairsL wrs) := hownW
        have hownW2 : w3.ownsRow _ 36 2 (H2 q true) wrs2.length (pairsL wrs2) := hownW2
        obtain ⟨wx, wc, hw⟩ := own_is hownW
        obtain ⟨wx2, wc2, hw2⟩ := own_is hownW2
        rw [hw] at hcw
        rw [hw2] at hcw2
        have hlw : wrs2.length ≤ wrs.length := (s6).length_le
        generalize wrs.length = wn at hlw hcw
        generalize wrs2.length = wn2 at hlw hcw2
        have lw1 : decide ((wn : Int) < (wn2 : Int)) = false := by rw [decide_eq_false_iff_not]; omega
        have lw2 : decide (wn < wn2) = false := by rw [decide_eq_false_iff_not]; omega
        have c0 := hcw 0 (.int .i64 th2) (by decide) rfl
        have c1 := hcw 1 (.int .i64 tx2) (by decide) rfl
        have c2 := hcw 2 (.int .i64 fr2) (by decide) rfl
        have c3 := hcw 3 (.int .i64 tw) (by decide) rfl
        have c4 := hcw 4 (.int .i64 rv2) (by decide) rfl
        have c5 := hcw 5 (.int .i64 wv) (by decide) rfl
        have c6 := hcw 6 (.bool com) (by decide) rfl
        have c7 := hcw 7 (.slice rx rn rc) (by decide) rfl
        have c8 := hcw 8 (.slice wx wn wc) (by decide) rfl
        have a0 := hcw2 0 (.int .i64 th2) (by decide) rfl
        have a1 := hcw2 1 (.int .i64 tx2) (by decide) rfl
        have a2 := hcw2 2 (.int .i64 fr2) (by decide) rfl
        have a3 := hcw2 3 (.int .i64 tw2) (by decide) rfl
        have a4 := hcw2 4 (.int .i64 rv2) (by decide) rfl
        have a5 := hcw2 5 (.int .i64 wv2) (by decide) rfl
        have a6 := hcw2 6 (.bool com2) (by decide) rfl
        have a7 := hcw2 7 (.slice rx2 rn2 rc2) (by decide) rfl
        have a8 := hcw2 8 (.slice wx2 wn2 wc2) (by decide) rfl
        rw [Nat.add_zero] at c0 a0
        have hgw2 := lt_of_cell a0
        have n1 : decide (fr2 < (k : Int)) = true := decide_eq_true hfr
        have S7 := hid s7
        have S8 := hid s8
        have S9 := hid s9
        clear s5 s6 s7 s8 s9 hlr hlw hr hr2 hw hw2 hcw hcw2 hownR hownR2 hownW hownW2 hown hown2 hcell hcell2 hgl hgl2 hA hB hfr hq hlt hm
        go_wp2_with fail
        apply wp_region_inv' (Bx wr 8 (fun i => [.slice (some ⟨g2', 0, none⟩) M.length mcc, .int .i64 (q : Int), .pointer (some ⟨g2', q * 9, none⟩), .agg #[.int .i64 th2, .int .i64 tx2, .int .i64 fr2, .int .i64 tw2, .int .i64 rv2, .int .i64 wv2, .bool com2, .slice rx2 rn2 rc2, .slice wx2 wn2 wc2], .slice (some ⟨g, 0, none⟩) L.length cc, .int .i64 (q : Int), .pointer (some ⟨g, q * 9, none⟩), .agg #[.int .i64 th2, .int .i64 tx2, .int .i64 fr2, .int .i64 tw, .int .i64 rv2, .int .i64 wv, .bool com, .slice rx rn rc, .slice wx wn wc]].getD i undef) (fun c => if c = 0 then #[.int .i64 th2, .int .i64 tx2, .int .i64 fr2, .int .i64 tw2, .int .i64 rv2, .int .i64 wv2, .bool com2, .slice rx2 rn2 rc2, .slice wx2 wn2 wc2] else #[.int .i64 th2, .int .i64 tx2, .int .i64 fr2, .int .i64 tw, .int .i64 rv2, .int .i64 wv, .bool com, .slice rx rn rc, .slice wx wn wc]) 33)
        focus (intro vals; simp [putAll, dstOf, Act.put]; rfl)
        case hm => kernel_rfl
        case hd => kernel_rfl
        case hb => kernel_rfl
        case hng => kernel_rfl
        case hsz => kernel_rfl
        case hext => exact fun l l' v w' h H => H.ext h
        case h0 => exact Bx.start (ext_drew (ext_refl _))
        case hstep =>
          refine ⟨?_, ?_, ?_, ?_, ?_, ?_, ?_, ?_, ?_, ?_, ?_, ?_, trivial⟩
          all_goals (
            intro l vs w' hi hd hJ
            refine ⟨(fun g b h => by cases h), fun _ ρ h1 h2 h3 h4 h5 => ?_⟩)
          · have f := h5 9 (by kernel_rfl)
            have HJ := hid hJ
            clear hJ
            unfold OpY
            go_simp
            exact Bx.get 0 (by omega) HJ.out
          · have f := h5 11 (by kernel_rfl)
            have HJ := hid hJ
            clear hJ
            unfold OpY
            go_simp
            exact Bx.get 1 (by omega) HJ.out
          · have fa := (h4 0 81 (by kernel_rfl) (by kernel_rfl)).trans (hJ.knw 0 (by omega) (hd 0 (by kernel_rfl)))
            have fb := (h4 1 82 (by kernel_rfl) (by kernel_rfl)).trans (hJ.knw 1 (by omega) (hd 1 (by kernel_rfl)))
            dsimp only [List.getD, List.getElem?_cons_zero, List.getElem?_cons_succ, Option.getD] at fa fb
            have HJ := hid hJ
            clear hJ
            unfold OpY
            go_simp
            exact Bx.get 2 (by omega) HJ.out
          · have fa := (h4 2 83 (by kernel_rfl) (by kernel_rfl)).trans (hJ.knw 2 (by omega) (hd 2 (by kernel_rfl)))
            dsimp only [List.getD, List.getElem?_cons_zero, List.getElem?_cons_succ, Option.getD] at fa
            have x0 := later hJ.mid a0
            have x1 := later hJ.mid a1
            have x2 := later hJ.mid a2
            have x3 := later hJ.mid a3
            have x4 := later hJ.mid a4
            have x5 := later hJ.mid a5
            have x6 := later hJ.mid a6
            have x7 := later hJ.mid a7
            have x8 := later hJ.mid a8
            have HJ := hid hJ
            clear hJ
            unfold OpY
            go_simp
            exact Bx.get 3 (by omega) HJ.out
          · have f := h5 5 (by kernel_rfl)
            have HJ := hid hJ
            clear hJ
            unfold OpY
            go_simp
            exact Bx.get 4 (by omega) HJ.out
          · have f := h5 11 (by kernel_rfl)
            have HJ := hid hJ
            clear hJ
            unfold OpY
            go_simp
            exact Bx.get 5 (by omega) HJ.out
          · have fa := (h4 4 85 (by kernel_rfl) (by kernel_rfl)).trans (hJ.knw 4 (by omega) (hd 4 (by kernel_rfl)))
            have fb := (h4 5 86 (by kernel_rfl) (by kernel_rfl)).trans (hJ.knw 5 (by omega) (hd 5 (by kernel_rfl)))
            dsimp only [List.getD, List.getElem?_cons_zero, List.getElem?_cons_succ, Option.getD] at fa fb
            have HJ := hid hJ
            clear hJ
            unfold OpY
            go_simp
            exact Bx.get 6 (by omega) HJ.out
          · have fa := (h4 6 87 (by kernel_rfl) (by kernel_rfl)).trans (hJ.knw 6 (by omega) (hd 6 (by kernel_rfl)))
            dsimp only [List.getD, List.getElem?_cons_zero, List.getElem?_cons_succ, Option.getD] at fa
            have x0 := later hJ.mid c0
            have x1 := later hJ.mid c1
            have x2 := later hJ.mid c2
            have x3 := later hJ.mid c3
            have x4 := later hJ.mid c4
            have x5 := later hJ.mid c5
            have x6 := later hJ.mid c6
            have x7 := later hJ.mid c7
            have x8 := later hJ.mid c8
            have HJ := hid hJ
            clear hJ
            unfold OpY
            go_simp
            exact Bx.get 7 (by omega) HJ.out
          · skip
            have HJ := hid hJ
            clear hJ
            unfold OpY
            go_simp
            exact Bx.alloc rfl 0 (by omega) hi HJ.out
          · skip
            have HJ := hid hJ
            clear hJ
            unfold OpY
            go_simp
            exact Bx.alloc rfl 1 (by omega) hi HJ.out
          · have g1 := hd 8 (by kernel_rfl)
            have g2 := hJ.knw 3 (by omega) (hd 3 (by kernel_rfl))
            obtain ⟨b, cs, g3, g4, g5, g6, -⟩ := hJ.als 0 (by omega) g1
            obtain ⟨y0, y1, y2, y3, y4, y5, y6, y7, y8, rfl⟩ := arr9 g6
            have f1 := (h4 8 12 (by kernel_rfl) (by kernel_rfl)).trans g3
            have f2 := (h4 3 84 (by kernel_rfl) (by kernel_rfl)).trans g2
            dsimp only [List.getD, List.getElem?_cons_zero, List.getElem?_cons_succ, Option.getD] at f2
            have HH := hid g5
            have z0 := HH.out.free 0
            have z1 := HH.out.free 1
            have z2 := HH.out.free 2
            have z3 := HH.out.free 3
            have z4 := HH.out.free 4
            have z5 := HH.out.free 5
            have z6 := HH.out.free 6
            have z7 := HH.out.free 7
            have z8 := HH.out.free 8
            have r0 := HH.out.cell 0 (v := y0) rfl
            have r1 := HH.out.cell 1 (v := y1) rfl
            have r2 := HH.out.cell 2 (v := y2) rfl
            have r3 := HH.out.cell 3 (v := y3) rfl
            have r4 := HH.out.cell 4 (v := y4) rfl
            have r5 := HH.out.cell 5 (v := y5) rfl
            have r6 := HH.out.cell 6 (v := y6) rfl
            have r7 := HH.out.cell 7 (v := y7) rfl
            have r8 := HH.out.cell 8 (v := y8) rfl
            have G3 := hid g3
            clear g2 g3 g5
            have HJ := hid hJ
            clear hJ
            unfold OpY
            go_simp
            exact Bx.store 0 b (by omega) rfl g1 G3.out HJ.out
          · have g1 := hd 9 (by kernel_rfl)
            have g2 := hJ.knw 7 (by omega) (hd 7 (by kernel_rfl))
            obtain ⟨b, cs, g3, g4, g5, g6, -⟩ := hJ.als 1 (by omega) g1
            obtain ⟨y0, y1, y2, y3, y4, y5, y6, y7, y8, rfl⟩ := arr9 g6
            have f1 := (h4 9 13 (by kernel_rfl) (by kernel_rfl)).trans g3
            have f2 := (h4 7 88 (by kernel_rfl) (by kernel_rfl)).trans g2
            dsimp only [List.getD, List.getElem?_cons_zero, List.getElem?_cons_succ, Option.getD] at f2
            have HH := hid g5
            have z0 := HH.out.free 0
            have z1 := HH.out.free 1
            have z2 := HH.out.free 2
            have z3 := HH.out.free 3
            have z4 := HH.out.free 4
            have z5 := HH.out.free 5
            have z6 := HH.out.free 6
            have z7 := HH.out.free 7
            have z8 := HH.out.free 8
            have r0 := HH.out.cell 0 (v := y0) rfl
            have r1 := HH.out.cell 1 (v := y1) rfl
            have r2 := HH.out.cell 2 (v := y2) rfl
            have r3 := HH.out.cell 3 (v := y3) rfl
            have r4 := HH.out.cell 4 (v := y4) rfl
            have r5 := HH.out.cell 5 (v := y5) rfl
            have r6 := HH.out.cell 6 (v := y6) rfl
            have r7 := HH.out.cell 7 (v := y7) rfl
            have r8 := HH.out.cell 8 (v := y8) rfl
            have G3 := hid g3
            clear g2 g3 g5
            have HJ := hid hJ
            clear hJ
            unfold OpY
            go_simp
            exact Bx.store 1 b (by omega) rfl g1 G3.out HJ.out
        case hdone =>
          intro vs w6 hJ
          obtain ⟨b0, d0, e0, g0, k0, -, z0⟩ := hJ.als 0 (by omega) rfl
          obtain ⟨b1, d1, e1, g1', k1, -, z1⟩ := hJ.als 1 (by omega) rfl
          obtain rfl := z0 rfl
          obtain rfl := z1 rfl
          have e0 : vs 8 = _ := e0
          have e1 : vs 9 = _ := e1
          rw [e0, e1]
          have HMID := hid hJ.mid
          have k0 : Blk w6 b0 #[.int .i64 th2, .int .i64 tx2, .int .i64 fr2, .int .i64 tw2, .int .i64 rv2, .int .i64 wv2, .bool com2, .slice rx2 rn2 rc2, .slice wx2 wn2 wc2] 33 := k0
          have k1 : Blk w6 b1 #[.int .i64 th2, .int .i64 tx2, .int .i64 fr2, .int .i64 tw, .int .i64 rv2, .int .i64 wv, .bool com, .slice rx rn rc, .slice wx wn wc] 33 := k1
          have x0 := k0.cell 0 (v := .int .i64 th2) rfl
          have x1 := k0.cell 1 (v := .int .i64 tx2) rfl
          have x2 := k0.cell 2 (v := .int .i64 fr2) rfl
          have x3 := k0.cell 3 (v := .int .i64 tw2) rfl
          have x4 := k0.cell 4 (v := .int .i64 rv2) rfl
          have x5 := k0.cell 5 (v := .int .i64 wv2) rfl
          have x6 := k0.cell 6 (v := .bool com2) rfl
          have x7 := k0.cell 7 (v := .slice rx2 rn2 rc2) rfl
          have x8 := k0.cell 8 (v := .slice wx2 wn2 wc2) rfl
          have y0 := k1.cell 0 (v := .int .i64 th2) rfl
          have y1 := k1.cell 1 (v := .int .i64 tx2) rfl
          have y2 := k1.cell 2 (v := .int .i64 fr2) rfl
          have y3 := k1.cell 3 (v := .int .i64 tw) rfl
          have y4 := k1.cell 4 (v := .int .i64 rv2) rfl
          have y5 := k1.cell 5 (v := .int .i64 wv) rfl
          have y6 := k1.cell 6 (v := .bool com) rfl
          have y7 := k1.cell 7 (v := .slice rx rn rc) rfl
          have y8 := k1.cell 8 (v := .slice wx wn wc) rfl
          have hb0 := k0.lt
          have hb1 := k1.lt
          clear hJ z0 z1 e0 e1 k0 k1 c0 c1 c2 c3 c4 c5 c6 c7 c8 a0 a1 a2 a3 a4 a5 a6 a7 a8 hgw hgw2 i1 i2 n1 m1 m4 m6 m7 j1 j4 g1 g2 hk2 jk2 j m2 m3 m5
          skip
          cases com2
          case' true =>
            obtain ⟨v1, v2⟩ := S7.out rfl
            have v3 : (wv2 != wv) = false := by rw [v2]; simp
            subst v1
            clear v2
          all_goals (
            by_cases t1 : tw2 = -1
            · have p1 : (tw2 != -1) = false := by rw [t1]; rfl
              have p2 : (tw2 == -1) = true := by rw [t1]; rfl
              by_cases t2 : tw = -1
              · have p3 : (tw != -1) = false := by rw [t2]; rfl
                clear t1 t2
                go_wp2_with fail
                all_goals (
                  go_roundw
                  case rel => exact ⟨q + 1, HLT.out, rfl, hid (HBR.out.trans (HMID.out.mono HBR.out.size))⟩
                  case measure => exact (by have := HLT.out; dsimp only [intOf]; omega))
              · have p3 : (tw != -1) = true := bne_iff_ne.2 t2
                have p4 : decide (tw < (k : Int)) = false := decide_eq_false (by have := S9.out t1 t2; omega)
                clear t1 t2
                go_wp2_with fail
                all_goals (
                  go_roundw
                  case rel => exact ⟨q + 1, HLT.out, rfl, hid (HBR.out.trans (HMID.out.mono HBR.out.size))⟩
                  case measure => exact (by have := HLT.out; dsimp only [intOf]; omega))
            · have p1 : (tw2 != -1) = true := bne_iff_ne.2 t1
              have p2 : (tw2 == -1) = false := beq_eq_false_iff_ne.2 t1
              have p3 : (tw2 != tw) = false := by rw [S8.out t1]; simp
              clear t1
              go_wp2_with fail
              all_goals (
                go_roundw
                case rel => exact ⟨q + 1, HLT.out, rfl, hid (HBR.out.trans (HMID.out.mono HBR.out.size))⟩
                case measure => exact (by have := HLT.out; dsimp only [intOf]; omega)))
      · have m1 : decide ((q : Int) < (M.length : Int)) = false := by rw [decide_eq_false_iff_not]; omega
        have m4 : decide (q < M.length) = false := by rw [decide_eq_false_iff_not]; omega
        have m6 : decide ((M.length : Int) ≤ (q : Int)) = true := by rw [decide_eq_true_iff]; omega
        have m7 : decide (M.length ≤ q) = true := by rw [decide_eq_true_iff]; omega
        have hfr := HG.out.new q (by omega) hlt
        generalize (L.getD q Att.zero).from_ = fr at c2 hfr
        have n1 : decide (fr < (k : Int)) = false := decide_eq_false (by omega)
        clear hfr hm hq hlt hown hownR hownW hcw hcell hgl
        go_wp2_with fail
        go_roundw
        case rel => exact ⟨q + 1, HLT.out, rfl, HBR⟩
        case measure => exact (by have := HLT.out; dsimp only [intOf]; omega)
    · obtain rfl : q = L.length := by omega
      have j1 : decide ((L.length : Int) < (L.length : Int)) = false := by rw [decide_eq_false_iff_not]; omega
      have j4 : decide (L.length < L.length) = false := by rw [decide_eq_false_iff_not]; omega
      go_wp2_with fail
      go_ret
      exact ⟨rfl, ext_trans HB4.out HBR.out⟩
theorem historyBegun_any (T V S : Int) (a : Option Addr) (l : List Ev) (cap : Nat) (n : Int) (w : World) (hcap : l.length ≤ cap) (hE : EvsAt w a l) (hK : KindsAt w) (hT : TabOk w) :
    Calls Tryd.prog 5 #[trA T V S a l.length cap, .int .i64 n] w fun e w' => e = .returned (.bool true) ∧ Below w.heap.size w w' := by
  by_cases hl : l.length ≤ 2000
  · by_cases hc : (checkT T V S l).2 = 0
    · exact begun_loop T V S a l cap n w hl hcap hc hE hK hT
    · exact begun_no T V S a l cap n w hl hc hE hK hT
  · exact begun_great T V S a l.length cap n w (by omega) hK hT

end Go.Proofs.YtjckgagkkknmnaaDoor
