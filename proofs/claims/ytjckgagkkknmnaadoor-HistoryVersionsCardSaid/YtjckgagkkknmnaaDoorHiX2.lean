/-
  The law HistoryVersions: its walk (printed by tools/gen_hix2.py).
-/
import Derived.Test.YtjckgagkkknmnaaDoorHiG7
import Derived.Test.YtjckgagkkknmnaaDoorShU
import Derived.Test.YtjckgagkkknmnaaDoorHiG2
namespace Go.Proofs.YtjckgagkkknmnaaDoor
set_option linter.unusedVariables false
set_option linter.unusedSimpArgs false
set_option linter.unusedVariables false
open Go Go.RowKit
theorem runS_vars : ∀ (l : List Ev) {s s' : Sh}, runS s l = some s' → s'.vars = s.vars
  | [], s, s', h => by cases h; rfl
  | e :: l, s, s', h => by
    unfold runS at h
    cases hs : stepS s e with
    | none => rw [hs] at h; cases h
    | some r =>
      rw [hs] at h
      obtain ⟨_, _, _, h3, _⟩ := stepS_keeps hs
      rw [runS_vars l h, h3]
theorem pairsL_get : ∀ {l : List (Int × Int)} {i : Nat}, i < l.length → (pairsL l)[i * 2]? = some (.int .i64 (l.getD i (0, 0)).1) ∧ (pairsL l)[i * 2 + 1]? = some (.int .i64 (l.getD i (0, 0)).2)
  | p :: l, 0, _ => ⟨rfl, rfl⟩
  | p :: l, i + 1, h => by
    have := pairsL_get (l := l) (i := i) (by simpa using h)
    have e : pairsL (p :: l) = [.int .i64 p.1, .int .i64 p.2] ++ pairsL l := by unfold pairsL; rw [List.flatMap_cons]
    rw [e, List.getElem?_append_right (by simp; omega), List.getElem?_append_right (by simp; omega)]
    have e1 : (i + 1) * 2 - [Value.int .i64 p.1, Value.int .i64 p.2].length = i * 2 := by simp; omega
    have e2 : (i + 1) * 2 + 1 - [Value.int .i64 p.1, Value.int .i64 p.2].length = i * 2 + 1 := by simp; omega
    rw [e1, e2]; exact this
/-- Pairs as they lie in memory, later on. -/
theorem pairs_at {W W' : World} {n₀ n : Nat} {v : Value} {l : List (Int × Int)} (h : W.ownsRow n₀ 36 2 v n (pairsL l)) (hn : l.length = n) (hb : Below W.heap.size W W') : ∃ x c, v = .slice x n c ∧
    ∀ i, i < n → ∃ g, x = some ⟨g, 0, none⟩ ∧ g < W'.heap.size ∧ ∀ j, j < n → W'.cell? ⟨g, j * 2, none⟩ = some (.int .i64 (l.getD j (0, 0)).1) ∧ W'.cell? ⟨g, j * 2 + 1, none⟩ = some (.int .i64 (l.getD j (0, 0)).2) := by
  subst hn
  obtain ⟨x, c, rfl⟩ := own_is h
  refine ⟨x, c, rfl, fun i hi => ?_⟩
  obtain ⟨g, c', e, _, hg⟩ := own_slice h (by omega)
  cases e
  refine ⟨g, rfl, Nat.lt_of_lt_of_le hg hb.size, fun j hj => ?_⟩
  obtain ⟨h1, h2⟩ := pairsL_get hj
  exact ⟨later hb ((h.cellAt (j * 2) (by omega)).trans h1), later hb ((h.cellAt (j * 2 + 1) (by omega)).trans h2)⟩
theorem rising_get {l : List (Int × Int)} (h : Rising l) {i : Nat} (hi : i + 1 < l.length) : (l.getD i (0, 0)).1 < (l.getD (i + 1) (0, 0)).1 := by
  have := List.pairwise_iff_getElem.1 h i (i + 1) (by omega) hi (by omega)
  simpa [List.getD_eq_getElem?_getD, List.getElem?_eq_getElem hi, List.getElem?_eq_getElem (show i < l.length by omega)] using this
set_option maxRecDepth 100000 in
set_option maxHeartbeats 4000000 in
theorem vers_great (T V S : Int) (a : Option Addr) (len cap : Nat) (w : World) (hl : 600 < len) (hK : KindsAt w) (hT : TabOk w) :
    Calls Tryd.prog 4 #[trA T V S a len cap] w fun e w' => e = .returned (.bool true) ∧ Below w.heap.size w w' := by
  have HW := hid (fun W (hW : Below w.heap.size w W) => Rk.works_any W (hK.below hW) (hT.below hW))
  have j : decide ((600 : Int) < (len : Int)) = true := by rw [decide_eq_true_iff]; omega
  clear hl hK hT
  dsimp only [trA]
  have HB : Hid (Below w.heap.size w (w.alloc (.cells #[.int .i64 T, .int .i64 V, .int .i64 S, .slice a len cap] 24))) := hid (ext_alloc (ext_refl _) _)
  have d := Blk.new w #[.int .i64 T, .int .i64 V, .int .i64 S, .slice a len cap] 24
  go_enter Tryd.func4, Tryd.ntmps4
  go_wp2_with fail
  refine (HW.out _ HB.out).mono ?_
  rintro e' w1 ⟨rfl, hb1⟩
  have d3 := later hb1 (d.cell 3 rfl)
  have HB1 := hid (ext_trans HB.out hb1)
  clear hb1 d
  go_wp2_with fail
  refine (HW.out _ HB1.out).mono ?_
  rintro e' w2 ⟨rfl, hb2⟩
  have HB2 := hid (ext_trans HB1.out hb2)
  clear hb2
  go_wp2_with fail
  go_ret
  exact ⟨rfl, HB2.out⟩

set_option maxRecDepth 100000 in
set_option maxHeartbeats 4000000 in
theorem vers_no (T V S : Int) (a : Option Addr) (l : List Ev) (cap : Nat) (w : World) (hl : l.length ≤ 600) (hc : (checkT T V S l).2 ≠ 0) (hE : EvsAt w a l) (hK : KindsAt w) (hT : TabOk w) :
    Calls Tryd.prog 4 #[trA T V S a l.length cap] w fun e w' => e = .returned (.bool true) ∧ Below w.heap.size w w' := by
  have HW := hid (fun W (hW : Below w.heap.size w W) => Rk.works_any W (hK.below hW) (hT.below hW))
  have HC := hid (fun W (hW : Below w.heap.size w W) => of_any T V S a l cap W (hE.below hW) (hK.below hW) (hT.below hW))
  have j : decide ((600 : Int) < (l.length : Int)) = false := by rw [decide_eq_false_iff_not]; omega
  unfold OfP at HC
  obtain ⟨q, hq⟩ : ∃ q, (checkT T V S l).2 = q := ⟨_, rfl⟩
  rw [hq] at HC hc
  have g1 : (q == 0) = false := beq_eq_false_iff_ne.2 hc
  have g2 : (q != 0) = true := bne_iff_ne.2 hc
  clear hl hK hT hE hc hq
  dsimp only [trA] at HC ⊢
  have HB : Hid (Below w.heap.size w (w.alloc (.cells #[.int .i64 T, .int .i64 V, .int .i64 S, .slice a l.length cap] 24))) := hid (ext_alloc (ext_refl _) _)
  have d := Blk.new w #[.int .i64 T, .int .i64 V, .int .i64 S, .slice a l.length cap] 24
  go_enter Tryd.func4, Tryd.ntmps4
  go_wp2_with fail
  refine (HW.out _ HB.out).mono ?_
  rintro e' w1 ⟨rfl, hb1⟩
  have d0 := later hb1 (d.cell 0 rfl)
  have d1 := later hb1 (d.cell 1 rfl)
  have d2 := later hb1 (d.cell 2 rfl)
  have d3 := later hb1 (d.cell 3 rfl)
  have HB1 := hid (ext_trans HB.out hb1)
  clear hb1 d
  go_wp2_with fail
  refine (HC.out _ HB1.out).mono ?_
  rintro e' w2 ⟨vo, rfl, hb2, hat⟩
  have HB2 := hid (ext_trans HB1.out hb2)
  clear hb2 hat
  go_wp2_with fail
  go_ret
  exact ⟨rfl, HB2.out⟩

set_option maxRecDepth 100000 in
set_option maxHeartbeats 40000000 in
theorem vers_loop (T V S : Int) (a : Option Addr) (l : List Ev) (cap : Nat) (w : World) (hl : l.length ≤ 600) (hc : (checkT T V S l).2 = 0) (hE : EvsAt w a l) (hK : KindsAt w) (hT : TabOk w) :
    Calls Tryd.prog 4 #[trA T V S a l.length cap] w fun e w' => e = .returned (.bool true) ∧ Below w.heap.size w w' := by
  have HW := hid (fun W (hW : Below w.heap.size w W) => Rk.works_any W (hK.below hW) (hT.below hW))
  have HC := hid (fun W (hW : Below w.heap.size w W) => of_any T V S a l cap W (hE.below hW) (hK.below hW) (hT.below hW))
  have j : decide ((600 : Int) < (l.length : Int)) = false := by rw [decide_eq_false_iff_not]; omega
  obtain ⟨hz, hmax, s, hs⟩ := checkT_fine hc
  have hz' := sizeOk_of hz
  have hI := hs.hi
  unfold OfP at HC
  rw [hc, if_pos rfl] at HC
  obtain ⟨L, hL⟩ : ∃ L, (histT l).out = L := ⟨_, rfl⟩
  have hLl : L.length ≤ 600 := by
    have := hist_len l newH 0
    have h0 : newH.out.length = 0 := rfl
    rw [← hL]
    show (histF newH 0 l).out.length ≤ 600
    omega
  have hLg : ∀ k, k < L.length → (histT l).out[k]? = some (L.getD k Att.zero) := fun k hk => by rw [hL]; exact get?_getD _ hk
  have hv : s.vars = V := runS_vars l hs.run
  have HA := hid (fun k (hk : k < L.length) => hv ▸ hI.att k (L.getD k Att.zero) (hLg k hk))
  have HP := hid (fun j k (hj : j < k) (hk : k < L.length) => hI.pair j k (L.getD j Att.zero) (L.getD k Att.zero) hj (hLg j (by omega)) (hLg k hk))
  have HLEN : Hid (∀ k, k < L.length → (L.getD k Att.zero).reads.length ≤ 2000 ∧ (L.getD k Att.zero).writes.length ≤ 2000) := hid (fun k hk => by
    have hm : L.getD k Att.zero ∈ (histF newH 0 l).out := List.mem_of_getElem? (hLg k hk)
    have := hist_pairs l newH 0 0 (fun q hq => absurd hq (by simp [newH])) _ hm
    omega)
  clear hv
  rw [hL] at HC
  have HL := hid hLl
  clear hLg hl hK hT hE hc hz hz' hs hI hL hLl hmax
  dsimp only [trA] at HC ⊢
  have HB : Hid (Below w.heap.size w (w.alloc (.cells #[.int .i64 T, .int .i64 V, .int .i64 S, .slice a l.length cap] 24))) := hid (ext_alloc (ext_refl _) _)
  have d := Blk.new w #[.int .i64 T, .int .i64 V, .int .i64 S, .slice a l.length cap] 24
  go_enter Tryd.func4, Tryd.ntmps4
  go_wp2_with fail
  refine (HW.out _ HB.out).mono ?_
  rintro e' w1 ⟨rfl, hb1⟩
  have d0 := later hb1 (d.cell 0 rfl)
  have d1 := later hb1 (d.cell 1 rfl)
  have d2 := later hb1 (d.cell 2 rfl)
  have d3 := later hb1 (d.cell 3 rfl)
  have HB1 := hid (ext_trans HB.out hb1)
  clear hb1 d
  go_wp2_with fail
  refine (HC.out _ HB1.out).mono ?_
  rintro e' w2 ⟨vo, rfl, hb2, hat⟩
  have HB2 := hid (ext_trans HB1.out hb2)
  have HAT := hid hat
  obtain ⟨cv, hlen⟩ : ∃ g c, vo = .slice g L.length c := by
    obtain ⟨H, h1, _⟩ := hat
    obtain ⟨x, c, rfl⟩ := own_is h1
    exact ⟨_, _, rfl⟩
  obtain ⟨cc, rfl⟩ := hlen
  have D1 := hid (later hb2 d1)
  clear hb2 hat d0 d1 d2 d3
  go_wp2_with fail
  go_loopw [5] (fun i wr => ∃ k : Nat, k ≤ L.length ∧ i = .int .i64 (k : Int) ∧ Hid (Below w2.heap.size w2 wr)) (fun i _ => L.length - (intOf i).toNat)
  case atStart => exact ⟨0, Nat.zero_le _, rfl, hid (ext_refl _)⟩
  case round =>
    obtain ⟨k, hk, rfl, HBR⟩ := hrel
    by_cases hlt : k < L.length
    · have HLT := hid hlt
      have j1 : decide ((k : Int) < (L.length : Int)) = true := by rw [decide_eq_true_iff]; omega
      have j2 : (0 : Int) ≤ (k : Int) := by omega
      have j3 : IntKind.i64.wrap ((k : Int) + 1) = (k : Int) + 1 := IntWalk.i64_in _ (by have := HL.out; omega)
      have j4 : decide (k < L.length) = true := by rw [decide_eq_true_iff]; omega
      have j5 : (k : Int) < (L.length : Int) := by omega
      obtain ⟨g, c, H, hsl, hgl, hcell, _⟩ := HAT.out.cells (by omega)
      cases hsl
      have HCELL := hid hcell
      have HGL := hid hgl
      have hcw : ∀ i, i < L.length → ∀ (j : Nat) (u : Value), j < 9 → (attL (L.getD i Att.zero) (H i false) (H i true))[j]? = some u → wr.cell? ⟨g, i * 9 + j, none⟩ = some u := fun i hi j u hj hu => (HBR.out.cell (p := ⟨g, i * 9 + j, none⟩) hgl).trans (hcell i j u hi hj hu)
      have hok := HA.out k hlt
      have c4 := hcw k hlt 4 (.int .i64 (L.getD k Att.zero).rv) (by decide) rfl
      have c5 := hcw k hlt 5 (.int .i64 (L.getD k Att.zero).wv) (by decide) rfl
      have hgt := hok.gt
      obtain ⟨B, hB⟩ : ∃ B, L.getD k Att.zero = B := ⟨_, rfl⟩
      rw [hB] at hgt c4 c5
      obtain ⟨th, tx, fr, tw, rv, wv, com, rds, wrs⟩ := B
      dsimp only at hgt c4 c5
      have HBB := hid hB
      have hgw := lt_of_cell c4
      clear hok hcw hcell hgl hB hk hlt
      go_wp2_with fail
      have HG5 := hid hgt
      obtain ⟨p1, hp1⟩ : ∃ p, (wv != 0) = p := ⟨_, rfl⟩
      have hp2 : p1 = true → decide (wv ≤ rv) = false := fun h => decide_eq_false (by have := hgt (bne_iff_ne.1 (hp1.trans h)); omega)
      have HP1 := hid hp1
      have HP2 := hid hp2
      clear hgt hp1 hp2
      apply wp_region_known (fun qq => ([(.slice (some ⟨g, 0, none⟩) L.length cc), (.int .i64 (k : Int)), (.pointer (some ⟨g, k * 9, none⟩)), (.pointer (some ⟨g, k * 9 + 5, none⟩)), (.int .i64 wv), (.bool p1), (.bool p1), (WT p1 (.slice (some ⟨g, 0, none⟩) L.length cc)), (WT p1 (.int .i64 (k : Int))), (WT p1 (.pointer (some ⟨g, k * 9, none⟩))), (WT p1 (.pointer (some ⟨g, k * 9 + 5, none⟩))), (WT p1 (.int .i64 wv)), (WT p1 (.slice (some ⟨g, 0, none⟩) L.length cc)), (WT p1 (.int .i64 (k : Int))), (WT p1 (.pointer (some ⟨g, k * 9, none⟩))), (WT p1 (.pointer (some ⟨g, k * 9 + 4, none⟩))), (WT p1 (.int .i64 rv)), (WT p1 (.bool false)), (.bool false)] : List Value).getD qq undef) (fun w' => Below wr.heap.size wr w')
      focus (simp [putAll, dstOf, Act.put, List.getD]; rfl)
      case hm => kernel_rfl
      case hd => kernel_rfl
      case hb => kernel_rfl
      case hng => kernel_rfl
      case hsz => kernel_rfl
      case h0 => exact ext_drew (ext_refl _)
      case hstep =>
        refine ⟨?_, ?_, ?_, ?_, ?_, ?_, ?_, ?_, ?_, ?_, ?_, ?_, ?_, ?_, ?_, ?_, ?_, ?_, ?_, trivial⟩
        · refine ⟨(fun g b h => by cases h), fun w' hG hg ρ h1 h2 h3 h4 h5 => ?_⟩
          have hG := hid hG
          have f3 : ρ (.tmp 3) = .slice (some ⟨g, 0, none⟩) L.length cc := h5 3 (by kernel_rfl)
          all_goals
            try dsimp only [WF, WT] at *
            clear h4 h5 hg
            unfold OpY
            go_simp
            first | exact ⟨rfl, hG.out⟩ | exact ⟨Or.inr rfl, hG.out⟩ | exact ⟨Or.inl rfl, hG.out⟩
        · refine ⟨(fun g b h => by cases h), fun w' hG hg ρ h1 h2 h3 h4 h5 => ?_⟩
          have hG := hid hG
          have f5 : ρ (.tmp 5) = .int .i64 (k : Int) := h5 5 (by kernel_rfl)
          all_goals
            try dsimp only [WF, WT] at *
            clear h4 h5 hg
            unfold OpY
            go_simp
            first | exact ⟨rfl, hG.out⟩ | exact ⟨Or.inr rfl, hG.out⟩ | exact ⟨Or.inl rfl, hG.out⟩
        · refine ⟨(fun g b h => by cases h), fun w' hG hg ρ h1 h2 h3 h4 h5 => ?_⟩
          have hG := hid hG
          have f33 : ρ (.tmp 33) = (.slice (some ⟨g, 0, none⟩) L.length cc) := h4 0 33 (by kernel_rfl) (by kernel_rfl)
          have f34 : ρ (.tmp 34) = (.int .i64 (k : Int)) := h4 1 34 (by kernel_rfl) (by kernel_rfl)
          all_goals
            try dsimp only [WF, WT] at *
            clear h4 h5 hg
            unfold OpY
            go_simp
            first | exact ⟨rfl, hG.out⟩ | exact ⟨Or.inr rfl, hG.out⟩ | exact ⟨Or.inl rfl, hG.out⟩
        · refine ⟨(fun g b h => by cases h), fun w' hG hg ρ h1 h2 h3 h4 h5 => ?_⟩
          have hG := hid hG
          have f35 : ρ (.tmp 35) = (.pointer (some ⟨g, k * 9, none⟩)) := h4 2 35 (by kernel_rfl) (by kernel_rfl)
          all_goals
            try dsimp only [WF, WT] at *
            clear h4 h5 hg
            unfold OpY
            go_simp
            first | exact ⟨rfl, hG.out⟩ | exact ⟨Or.inr rfl, hG.out⟩ | exact ⟨Or.inl rfl, hG.out⟩
        · refine ⟨(fun g b h => by cases h), fun w' hG hg ρ h1 h2 h3 h4 h5 => ?_⟩
          have hG := hid hG
          have f36 : ρ (.tmp 36) = (.pointer (some ⟨g, k * 9 + 5, none⟩)) := h4 3 36 (by kernel_rfl) (by kernel_rfl)
          have x := later hG.out c5
          all_goals
            try dsimp only [WF, WT] at *
            clear h4 h5 hg
            unfold OpY
            go_simp
            first | exact ⟨rfl, hG.out⟩ | exact ⟨Or.inr rfl, hG.out⟩ | exact ⟨Or.inl rfl, hG.out⟩
        · refine ⟨(fun g b h => by cases h), fun w' hG hg ρ h1 h2 h3 h4 h5 => ?_⟩
          have hG := hid hG
          have f37 : ρ (.tmp 37) = (.int .i64 wv) := h4 4 37 (by kernel_rfl) (by kernel_rfl)
          have e5 := HP1.out
          all_goals
            try dsimp only [WF, WT] at *
            clear h4 h5 hg
            unfold OpY
            go_simp
            first | exact ⟨rfl, hG.out⟩ | exact ⟨Or.inr rfl, hG.out⟩ | exact ⟨Or.inl rfl, hG.out⟩
        · refine ⟨(fun g b h => by cases h), fun w' hG hg ρ h1 h2 h3 h4 h5 => ?_⟩
          have hG := hid hG
          have f38 : ρ (.tmp 38) = (.bool p1) := h4 5 38 (by kernel_rfl) (by kernel_rfl)
          all_goals
            try dsimp only [WF, WT] at *
            clear h4 h5 hg
            unfold OpY
            go_simp
            first | exact ⟨rfl, hG.out⟩ | exact ⟨Or.inr rfl, hG.out⟩ | exact ⟨Or.inl rfl, hG.out⟩
        · refine ⟨(fun g b h => by
              obtain ⟨rfl, rfl⟩ := Prod.mk.inj (Option.some.inj h)
              exact ⟨p1, rfl, fun h => by
                cases p1
                · first | rfl | exact absurd rfl h
                · first | rfl | exact absurd rfl h⟩), fun w' hG hg ρ h1 h2 h3 h4 h5 => ?_⟩
          have hG := hid hG
          have hs : Value.bool p1 = .bool true := hg 6 true rfl
          injection hs with hs
          subst hs
          have f3 : ρ (.tmp 3) = .slice (some ⟨g, 0, none⟩) L.length cc := h5 3 (by kernel_rfl)
          all_goals
            try dsimp only [WF, WT] at *
            clear h4 h5 hg
            unfold OpY
            go_simp
            first | exact ⟨rfl, hG.out⟩ | exact ⟨Or.inr rfl, hG.out⟩ | exact ⟨Or.inl rfl, hG.out⟩
        · refine ⟨(fun g b h => by
              obtain ⟨rfl, rfl⟩ := Prod.mk.inj (Option.some.inj h)
              exact ⟨p1, rfl, fun h => by
                cases p1
                · first | rfl | exact absurd rfl h
                · first | rfl | exact absurd rfl h⟩), fun w' hG hg ρ h1 h2 h3 h4 h5 => ?_⟩
          have hG := hid hG
          have hs : Value.bool p1 = .bool true := hg 6 true rfl
          injection hs with hs
          subst hs
          have f5 : ρ (.tmp 5) = .int .i64 (k : Int) := h5 5 (by kernel_rfl)
          all_goals
            try dsimp only [WF, WT] at *
            clear h4 h5 hg
            unfold OpY
            go_simp
            first | exact ⟨rfl, hG.out⟩ | exact ⟨Or.inr rfl, hG.out⟩ | exact ⟨Or.inl rfl, hG.out⟩
        · refine ⟨(fun g b h => by
              obtain ⟨rfl, rfl⟩ := Prod.mk.inj (Option.some.inj h)
              exact ⟨p1, rfl, fun h => by
                cases p1
                · first | rfl | exact absurd rfl h
                · first | rfl | exact absurd rfl h⟩), fun w' hG hg ρ h1 h2 h3 h4 h5 => ?_⟩
          have hG := hid hG
          have hs : Value.bool p1 = .bool true := hg 6 true rfl
          injection hs with hs
          subst hs
          have f40 : ρ (.tmp 40) = (WT true (.slice (some ⟨g, 0, none⟩) L.length cc)) := h4 7 40 (by kernel_rfl) (by kernel_rfl)
          have f41 : ρ (.tmp 41) = (WT true (.int .i64 (k : Int))) := h4 8 41 (by kernel_rfl) (by kernel_rfl)
          all_goals
            try dsimp only [WF, WT] at *
            clear h4 h5 hg
            unfold OpY
            go_simp
            first | exact ⟨rfl, hG.out⟩ | exact ⟨Or.inr rfl, hG.out⟩ | exact ⟨Or.inl rfl, hG.out⟩
        · refine ⟨(fun g b h => by
              obtain ⟨rfl, rfl⟩ := Prod.mk.inj (Option.some.inj h)
              exact ⟨p1, rfl, fun h => by
                cases p1
                · first | rfl | exact absurd rfl h
                · first | rfl | exact absurd rfl h⟩), fun w' hG hg ρ h1 h2 h3 h4 h5 => ?_⟩
          have hG := hid hG
          have hs : Value.bool p1 = .bool true := hg 6 true rfl
          injection hs with hs
          subst hs
          have f42 : ρ (.tmp 42) = (WT true (.pointer (some ⟨g, k * 9, none⟩))) := h4 9 42 (by kernel_rfl) (by kernel_rfl)
          all_goals
            try dsimp only [WF, WT] at *
            clear h4 h5 hg
            unfold OpY
            go_simp
            first | exact ⟨rfl, hG.out⟩ | exact ⟨Or.inr rfl, hG.out⟩ | exact ⟨Or.inl rfl, hG.out⟩
        · refine ⟨(fun g b h => by
              obtain ⟨rfl, rfl⟩ := Prod.mk.inj (Option.some.inj h)
              exact ⟨p1, rfl, fun h => by
                cases p1
                · first | rfl | exact absurd rfl h
                · first | rfl | exact absurd rfl h⟩), fun w' hG hg ρ h1 h2 h3 h4 h5 => ?_⟩
          have hG := hid hG
          have hs : Value.bool p1 = .bool true := hg 6 true rfl
          injection hs with hs
          subst hs
          have f43 : ρ (.tmp 43) = (WT true (.pointer (some ⟨g, k * 9 + 5, none⟩))) := h4 10 43 (by kernel_rfl) (by kernel_rfl)
          have x := later hG.out c5
          all_goals
            try dsimp only [WF, WT] at *
            clear h4 h5 hg
            unfold OpY
            go_simp
            first | exact ⟨rfl, hG.out⟩ | exact ⟨Or.inr rfl, hG.out⟩ | exact ⟨Or.inl rfl, hG.out⟩
        · refine ⟨(fun g b h => by
              obtain ⟨rfl, rfl⟩ := Prod.mk.inj (Option.some.inj h)
              exact ⟨p1, rfl, fun h => by
                cases p1
                · first | rfl | exact absurd rfl h
                · first | rfl | exact absurd rfl h⟩), fun w' hG hg ρ h1 h2 h3 h4 h5 => ?_⟩
          have hG := hid hG
          have hs : Value.bool p1 = .bool true := hg 6 true rfl
          injection hs with hs
          subst hs
          have f3 : ρ (.tmp 3) = .slice (some ⟨g, 0, none⟩) L.length cc := h5 3 (by kernel_rfl)
          all_goals
            try dsimp only [WF, WT] at *
            clear h4 h5 hg
            unfold OpY
            go_simp
            first | exact ⟨rfl, hG.out⟩ | exact ⟨Or.inr rfl, hG.out⟩ | exact ⟨Or.inl rfl, hG.out⟩
        · refine ⟨(fun g b h => by
              obtain ⟨rfl, rfl⟩ := Prod.mk.inj (Option.some.inj h)
              exact ⟨p1, rfl, fun h => by
                cases p1
                · first | rfl | exact absurd rfl h
                · first | rfl | exact absurd rfl h⟩), fun w' hG hg ρ h1 h2 h3 h4 h5 => ?_⟩
          have hG := hid hG
          have hs : Value.bool p1 = .bool true := hg 6 true rfl
          injection hs with hs
          subst hs
          have f5 : ρ (.tmp 5) = .int .i64 (k : Int) := h5 5 (by kernel_rfl)
          all_goals
            try dsimp only [WF, WT] at *
            clear h4 h5 hg
            unfold OpY
            go_simp
            first | exact ⟨rfl, hG.out⟩ | exact ⟨Or.inr rfl, hG.out⟩ | exact ⟨Or.inl rfl, hG.out⟩
        · refine ⟨(fun g b h => by
              obtain ⟨rfl, rfl⟩ := Prod.mk.inj (Option.some.inj h)
              exact ⟨p1, rfl, fun h => by
                cases p1
                · first | rfl | exact absurd rfl h
                · first | rfl | exact absurd rfl h⟩), fun w' hG hg ρ h1 h2 h3 h4 h5 => ?_⟩
          have hG := hid hG
          have hs : Value.bool p1 = .bool true := hg 6 true rfl
          injection hs with hs
          subst hs
          have f45 : ρ (.tmp 45) = (WT true (.slice (some ⟨g, 0, none⟩) L.length cc)) := h4 12 45 (by kernel_rfl) (by kernel_rfl)
          have f46 : ρ (.tmp 46) = (WT true (.int .i64 (k : Int))) := h4 13 46 (by kernel_rfl) (by kernel_rfl)
          all_goals
            try dsimp only [WF, WT] at *
            clear h4 h5 hg
            unfold OpY
            go_simp
            first | exact ⟨rfl, hG.out⟩ | exact ⟨Or.inr rfl, hG.out⟩ | exact ⟨Or.inl rfl, hG.out⟩
        · refine ⟨(fun g b h => by
              obtain ⟨rfl, rfl⟩ := Prod.mk.inj (Option.some.inj h)
              exact ⟨p1, rfl, fun h => by
                cases p1
                · first | rfl | exact absurd rfl h
                · first | rfl | exact absurd rfl h⟩), fun w' hG hg ρ h1 h2 h3 h4 h5 => ?_⟩
          have hG := hid hG
          have hs : Value.bool p1 = .bool true := hg 6 true rfl
          injection hs with hs
          subst hs
          have f47 : ρ (.tmp 47) = (WT true (.pointer (some ⟨g, k * 9, none⟩))) := h4 14 47 (by kernel_rfl) (by kernel_rfl)
          all_goals
            try dsimp only [WF, WT] at *
            clear h4 h5 hg
            unfold OpY
            go_simp
            first | exact ⟨rfl, hG.out⟩ | exact ⟨Or.inr rfl, hG.out⟩ | exact ⟨Or.inl rfl, hG.out⟩
        · refine ⟨(fun g b h => by
              obtain ⟨rfl, rfl⟩ := Prod.mk.inj (Option.some.inj h)
              exact ⟨p1, rfl, fun h => by
                cases p1
                · first | rfl | exact absurd rfl h
                · first | rfl | exact absurd rfl h⟩), fun w' hG hg ρ h1 h2 h3 h4 h5 => ?_⟩
          have hG := hid hG
          have hs : Value.bool p1 = .bool true := hg 6 true rfl
          injection hs with hs
          subst hs
          have f48 : ρ (.tmp 48) = (WT true (.pointer (some ⟨g, k * 9 + 4, none⟩))) := h4 15 48 (by kernel_rfl) (by kernel_rfl)
          have x := later hG.out c4
          all_goals
            try dsimp only [WF, WT] at *
            clear h4 h5 hg
            unfold OpY
            go_simp
            first | exact ⟨rfl, hG.out⟩ | exact ⟨Or.inr rfl, hG.out⟩ | exact ⟨Or.inl rfl, hG.out⟩
        · refine ⟨(fun g b h => by
              obtain ⟨rfl, rfl⟩ := Prod.mk.inj (Option.some.inj h)
              exact ⟨p1, rfl, fun h => by
                cases p1
                · first | rfl | exact absurd rfl h
                · first | rfl | exact absurd rfl h⟩), fun w' hG hg ρ h1 h2 h3 h4 h5 => ?_⟩
          have hG := hid hG
          have hs : Value.bool p1 = .bool true := hg 6 true rfl
          injection hs with hs
          subst hs
          have f44 : ρ (.tmp 44) = (WT true (.int .i64 wv)) := h4 11 44 (by kernel_rfl) (by kernel_rfl)
          have f49 : ρ (.tmp 49) = (WT true (.int .i64 rv)) := h4 16 49 (by kernel_rfl) (by kernel_rfl)
          have e5 := HP2.out rfl
          all_goals
            try dsimp only [WF, WT] at *
            clear h4 h5 hg
            unfold OpY
            go_simp
            first | exact ⟨rfl, hG.out⟩ | exact ⟨Or.inr rfl, hG.out⟩ | exact ⟨Or.inl rfl, hG.out⟩
        · refine ⟨(fun g b h => by cases h), fun w' hG hg ρ h1 h2 h3 h4 h5 => ?_⟩
          have hG := hid hG
          have f39 : ρ (.tmp 39) = (.bool p1) := h4 6 39 (by kernel_rfl) (by kernel_rfl)
          have f50 : ρ (.tmp 50) = (WT p1 (.bool false)) := h4 17 50 (by kernel_rfl) (by kernel_rfl)
          cases p1
          all_goals
            try dsimp only [WF, WT] at *
            clear h4 h5 hg
            unfold OpY
            go_simp
            first | exact ⟨rfl, hG.out⟩ | exact ⟨Or.inr rfl, hG.out⟩ | exact ⟨Or.inl rfl, hG.out⟩
      case hdone =>
        intro w6 hG
        have HB3 : Hid (Below w2.heap.size w2 w6) := hid (HBR.out.trans (hG.mono HBR.out.size))
        clear c4 c5 hgw hG
        go_wp2_with fail
        go_loopw [6] (fun i wr => ∃ j : Nat, j ≤ k ∧ i = .int .i64 (j : Int) ∧ Hid (Below w2.heap.size w2 wr)) (fun i _ => k - (intOf i).toNat)
        case atStart => exact ⟨0, Nat.zero_le _, rfl, HB3⟩
        case round =>
          obtain ⟨m, hm, rfl, HBM⟩ := hrel
          by_cases hmk : m < k
          · have HMK := hid hmk
            have hml : m < L.length := Nat.lt_trans hmk HLT.out
            have i1 : decide ((m : Int) < (L.length : Int)) = true := by rw [decide_eq_true_iff]; omega
            have i2 : (0 : Int) ≤ (m : Int) := by omega
            have i3 : IntKind.i64.wrap ((m : Int) + 1) = (m : Int) + 1 := IntWalk.i64_in _ (by have := HL.out; omega)
            have i4 : decide (m < L.length) = true := by rw [decide_eq_true_iff]; omega
            have i5 : (m : Int) < (L.length : Int) := by omega
            have i6 : decide ((m : Int) < (k : Int)) = true := by rw [decide_eq_true_iff]; omega
            have i7 : decide (m < k) = true := by rw [decide_eq_true_iff]; omega
            have hcw : ∀ i, i < L.length → ∀ (j : Nat) (u : Value), j < 9 → (attL (L.getD i Att.zero) (H i false) (H i true))[j]? = some u → wr.cell? ⟨g, i * 9 + j, none⟩ = some u := fun i hi j u hj hu => (HBM.out.cell (p := ⟨g, i * 9 + j, none⟩) HGL.out).trans (HCELL.out i j u hi hj hu)
            obtain ⟨h1, h2, h3, h4, _⟩ := HP.out m k hmk HLT.out
            have c2 := hcw k HLT.out 2 (.int .i64 (L.getD k Att.zero).from_) (by decide) rfl
            have c4 := hcw k HLT.out 4 (.int .i64 (L.getD k Att.zero).rv) (by decide) rfl
            have c5 := hcw k HLT.out 5 (.int .i64 (L.getD k Att.zero).wv) (by decide) rfl
            have e3 := hcw m hml 3 (.int .i64 (L.getD m Att.zero).to_) (by decide) rfl
            have e4 := hcw m hml 4 (.int .i64 (L.getD m Att.zero).rv) (by decide) rfl
            have e5 := hcw m hml 5 (.int .i64 (L.getD m Att.zero).wv) (by decide) rfl
            rw [HBB.out] at h1 h2 h3 h4 c2 c4 c5
            obtain ⟨A, hA⟩ : ∃ A, L.getD m Att.zero = A := ⟨_, rfl⟩
            rw [hA] at h1 h2 h3 h4 e3 e4 e5
            clear hA
            obtain ⟨th2, tx2, fr2, tw2, rv2, wv2, com2, rds2, wrs2⟩ := A
            dsimp only at h1 h2 h3 h4 c2 c4 c5 e3 e4 e5
            have p6 : decide (rv < rv2) = false := decide_eq_false (by omega)
            have HE1 := hid (fun (h : p1 = true) => (beq_eq_false_iff_ne.2 (h4 (bne_iff_ne.1 (HP1.out.trans h))) : (wv2 == wv) = false))
            obtain ⟨p3, hp3⟩ : ∃ p, (tw2 != -1) = p := ⟨_, rfl⟩
            obtain ⟨p4, hp4⟩ : ∃ p, decide (tw2 < fr) = p := ⟨_, rfl⟩
            obtain ⟨p34, hp34⟩ : ∃ p, (p3 && p4) = p := ⟨_, rfl⟩
            have HE2 : Hid (p34 = true → decide (rv < wv2) = false) := hid (fun h => decide_eq_false (by
              rw [h, Bool.and_eq_true] at hp34
              have := h3 (bne_iff_ne.1 (hp3.trans hp34.1)) (of_decide_eq_true (hp4.trans hp34.2))
              omega))
            have HP3 := hid hp3
            have HP4 := hid hp4
            have HP34 := hid hp34
            have hgw := lt_of_cell c4
            have HP6 := hid p6
            clear h1 h2 h3 h4 hcw hm hmk hml hp3 hp4 hp34 p6
            go_wp2_with fail
            apply wp_region_known (fun qq => ([(.slice (some ⟨g, 0, none⟩) L.length cc), (.int .i64 (k : Int)), (.pointer (some ⟨g, k * 9, none⟩)), (.pointer (some ⟨g, k * 9 + 5, none⟩)), (.int .i64 wv), (.bool p1), (.bool p1), (WT p1 (.slice (some ⟨g, 0, none⟩) L.length cc)), (WT p1 (.int .i64 (m : Int))), (WT p1 (.pointer (some ⟨g, m * 9, none⟩))), (WT p1 (.pointer (some ⟨g, m * 9 + 5, none⟩))), (WT p1 (.int .i64 wv2)), (WT p1 (.slice (some ⟨g, 0, none⟩) L.length cc)), (WT p1 (.int .i64 (k : Int))), (WT p1 (.pointer (some ⟨g, k * 9, none⟩))), (WT p1 (.pointer (some ⟨g, k * 9 + 5, none⟩))), (WT p1 (.int .i64 wv)), (WT p1 (.bool false)), (.bool false), (.bool false), (WF false (.slice (some ⟨g, 0, none⟩) L.length cc)), (WF false (.int .i64 (m : Int))), (WF false (.pointer (some ⟨g, m * 9, none⟩))), (WF false (.pointer (some ⟨g, m * 9 + 3, none⟩))), (WF false (.int .i64 tw2)), (WF false (.bool p3)), (WF false (.bool p3)), (WT p3 (.slice (some ⟨g, 0, none⟩) L.length cc)), (WT p3 (.int .i64 (m : Int))), (WT p3 (.pointer (some ⟨g, m * 9, none⟩))), (WT p3 (.pointer (some ⟨g, m * 9 + 3, none⟩))), (WT p3 (.int .i64 tw2)), (WT p3 (.slice (some ⟨g, 0, none⟩) L.length cc)), (WT p3 (.int .i64 (k : Int))), (WT p3 (.pointer (some ⟨g, k * 9, none⟩))), (WT p3 (.pointer (some ⟨g, k * 9 + 2, none⟩))), (WT p3 (.int .i64 fr)), (WT p3 (.bool p4)), (WF false (.bool p34)), (WF false (.bool p34)), (WT p34 (.slice (some ⟨g, 0, none⟩) L.length cc)), (WT p34 (.int .i64 (m : Int))), (WT p34 (.pointer (some ⟨g, m * 9, none⟩))), (WT p34 (.pointer (some ⟨g, m * 9 + 5, none⟩))), (WT p34 (.int .i64 wv2)), (WT p34 (.slice (some ⟨g, 0, none⟩) L.length cc)), (WT p34 (.int .i64 (k : Int))), (WT p34 (.pointer (some ⟨g, k * 9, none⟩))), (WT p34 (.pointer (some ⟨g, k * 9 + 4, none⟩))), (WT p34 (.int .i64 rv)), (WT p34 (.bool false)), (WF false (.bool false)), (.bool false), (.bool false), (WF false (.slice (some ⟨g, 0, none⟩) L.length cc)), (WF false (.int .i64 (m : Int))), (WF false (.pointer (some ⟨g, m * 9, none⟩))), (WF false (.pointer (some ⟨g, m * 9 + 4, none⟩))), (WF false (.int .i64 rv2)), (WF false (.slice (some ⟨g, 0, none⟩) L.length cc)), (WF false (.int .i64 (k : Int))), (WF false (.pointer (some ⟨g, k * 9, none⟩))), (WF false (.pointer (some ⟨g, k * 9 + 4, none⟩))), (WF false (.int .i64 rv)), (WF false (.bool false)), (.bool false)] : List Value).getD qq undef) (fun w' => Below wr.heap.size wr w')
            focus (simp [putAll, dstOf, Act.put, List.getD]; rfl)
            case hm => kernel_rfl
            case hd => kernel_rfl
            case hb => kernel_rfl
            case hng => kernel_rfl
            case hsz => kernel_rfl
            case h0 => exact ext_drew (ext_refl _)
            case hstep =>
              refine ⟨?_, ?_, ?_, ?_, ?_, ?_, ?_, ?_, ?_, ?_, ?_, ?_, ?_, ?_, ?_, ?_, ?_, ?_, ?_, ?_, ?_, ?_, ?_, ?_, ?_, ?_, ?_, ?_, ?_, ?_, ?_, ?_, ?_, ?_, ?_, ?_, ?_, ?_, ?_, ?_, ?_, ?_, ?_, ?_, ?_, ?_, ?_, ?_, ?_, ?_, ?_, ?_, ?_, ?_, ?_, ?_, ?_, ?_, ?_, ?_, ?_, ?_, ?_, ?_, ?_, ?_, trivial⟩
              · refine ⟨(fun g b h => by cases h), fun w' hG hg ρ h1 h2 h3 h4 h5 => ?_⟩
                have hG := hid hG
                have f3 : ρ (.tmp 3) = .slice (some ⟨g, 0, none⟩) L.length cc := h5 3 (by kernel_rfl)
                all_goals
                  try dsimp only [WF, WT] at *
                  clear h4 h5 hg
                  unfold OpY
                  go_simp
                  first | exact ⟨rfl, hG.out⟩ | exact ⟨Or.inr rfl, hG.out⟩ | exact ⟨Or.inl rfl, hG.out⟩
              · refine ⟨(fun g b h => by cases h), fun w' hG hg ρ h1 h2 h3 h4 h5 => ?_⟩
                have hG := hid hG
                have f5 : ρ (.tmp 5) = .int .i64 (k : Int) := h5 5 (by kernel_rfl)
                all_goals
                  try dsimp only [WF, WT] at *
                  clear h4 h5 hg
                  unfold OpY
                  go_simp
                  first | exact ⟨rfl, hG.out⟩ | exact ⟨Or.inr rfl, hG.out⟩ | exact ⟨Or.inl rfl, hG.out⟩
              · refine ⟨(fun g b h => by cases h), fun w' hG hg ρ h1 h2 h3 h4 h5 => ?_⟩
                have hG := hid hG
                have f57 : ρ (.tmp 57) = (.slice (some ⟨g, 0, none⟩) L.length cc) := h4 0 57 (by kernel_rfl) (by kernel_rfl)
                have f58 : ρ (.tmp 58) = (.int .i64 (k : Int)) := h4 1 58 (by kernel_rfl) (by kernel_rfl)
                all_goals
                  try dsimp only [WF, WT] at *
                  clear h4 h5 hg
                  unfold OpY
                  go_simp
                  first | exact ⟨rfl, hG.out⟩ | exact ⟨Or.inr rfl, hG.out⟩ | exact ⟨Or.inl rfl, hG.out⟩
              · refine ⟨(fun g b h => by cases h), fun w' hG hg ρ h1 h2 h3 h4 h5 => ?_⟩
                have hG := hid hG
                have f59 : ρ (.tmp 59) = (.pointer (some ⟨g, k * 9, none⟩)) := h4 2 59 (by kernel_rfl) (by kernel_rfl)
                all_goals
                  try dsimp only [WF, WT] at *
                  clear h4 h5 hg
                  unfold OpY
                  go_simp
                  first | exact ⟨rfl, hG.out⟩ | exact ⟨Or.inr rfl, hG.out⟩ | exact ⟨Or.inl rfl, hG.out⟩
              · refine ⟨(fun g b h => by cases h), fun w' hG hg ρ h1 h2 h3 h4 h5 => ?_⟩
                have hG := hid hG
                have f60 : ρ (.tmp 60) = (.pointer (some ⟨g, k * 9 + 5, none⟩)) := h4 3 60 (by kernel_rfl) (by kernel_rfl)
                have x := later hG.out c5
                all_goals
                  try dsimp only [WF, WT] at *
                  clear h4 h5 hg
                  unfold OpY
                  go_simp
                  first | exact ⟨rfl, hG.out⟩ | exact ⟨Or.inr rfl, hG.out⟩ | exact ⟨Or.inl rfl, hG.out⟩
              · refine ⟨(fun g b h => by cases h), fun w' hG hg ρ h1 h2 h3 h4 h5 => ?_⟩
                have hG := hid hG
                have f61 : ρ (.tmp 61) = (.int .i64 wv) := h4 4 61 (by kernel_rfl) (by kernel_rfl)
                have q5 := HP1.out
                all_goals
                  try dsimp only [WF, WT] at *
                  clear h4 h5 hg
                  unfold OpY
                  go_simp
                  first | exact ⟨rfl, hG.out⟩ | exact ⟨Or.inr rfl, hG.out⟩ | exact ⟨Or.inl rfl, hG.out⟩
              · refine ⟨(fun g b h => by cases h), fun w' hG hg ρ h1 h2 h3 h4 h5 => ?_⟩
                have hG := hid hG
                have f62 : ρ (.tmp 62) = (.bool p1) := h4 5 62 (by kernel_rfl) (by kernel_rfl)
                all_goals
                  try dsimp only [WF, WT] at *
                  clear h4 h5 hg
                  unfold OpY
                  go_simp
                  first | exact ⟨rfl, hG.out⟩ | exact ⟨Or.inr rfl, hG.out⟩ | exact ⟨Or.inl rfl, hG.out⟩
              · refine ⟨(fun g b h => by
                    obtain ⟨rfl, rfl⟩ := Prod.mk.inj (Option.some.inj h)
                    exact ⟨p1, rfl, fun h => by
                      cases p1
                      · first | rfl | exact absurd rfl h
                      · first | rfl | exact absurd rfl h⟩), fun w' hG hg ρ h1 h2 h3 h4 h5 => ?_⟩
                have hG := hid hG
                have hs : Value.bool p1 = .bool true := hg 6 true rfl
                injection hs with hs
                subst hs
                have f3 : ρ (.tmp 3) = .slice (some ⟨g, 0, none⟩) L.length cc := h5 3 (by kernel_rfl)
                all_goals
                  try dsimp only [WF, WT] at *
                  clear h4 h5 hg
                  unfold OpY
                  go_simp
                  first | exact ⟨rfl, hG.out⟩ | exact ⟨Or.inr rfl, hG.out⟩ | exact ⟨Or.inl rfl, hG.out⟩
              · refine ⟨(fun g b h => by
                    obtain ⟨rfl, rfl⟩ := Prod.mk.inj (Option.some.inj h)
                    exact ⟨p1, rfl, fun h => by
                      cases p1
                      · first | rfl | exact absurd rfl h
                      · first | rfl | exact absurd rfl h⟩), fun w' hG hg ρ h1 h2 h3 h4 h5 => ?_⟩
                have hG := hid hG
                have hs : Value.bool p1 = .bool true := hg 6 true rfl
                injection hs with hs
                subst hs
                have f6 : ρ (.tmp 6) = .int .i64 (m : Int) := h5 6 (by kernel_rfl)
                all_goals
                  try dsimp only [WF, WT] at *
                  clear h4 h5 hg
                  unfold OpY
                  go_simp
                  first | exact ⟨rfl, hG.out⟩ | exact ⟨Or.inr rfl, hG.out⟩ | exact ⟨Or.inl rfl, hG.out⟩
              · refine ⟨(fun g b h => by
                    obtain ⟨rfl, rfl⟩ := Prod.mk.inj (Option.some.inj h)
                    exact ⟨p1, rfl, fun h => by
                      cases p1
                      · first | rfl | exact absurd rfl h
                      · first | rfl | exact absurd rfl h⟩), fun w' hG hg ρ h1 h2 h3 h4 h5 => ?_⟩
                have hG := hid hG
                have hs : Value.bool p1 = .bool true := hg 6 true rfl
                injection hs with hs
                subst hs
                have f64 : ρ (.tmp 64) = (WT true (.slice (some ⟨g, 0, none⟩) L.length cc)) := h4 7 64 (by kernel_rfl) (by kernel_rfl)
                have f65 : ρ (.tmp 65) = (WT true (.int .i64 (m : Int))) := h4 8 65 (by kernel_rfl) (by kernel_rfl)
                all_goals
                  try dsimp only [WF, WT] at *
                  clear h4 h5 hg
                  unfold OpY
                  go_simp
                  first | exact ⟨rfl, hG.out⟩ | exact ⟨Or.inr rfl, hG.out⟩ | exact ⟨Or.inl rfl, hG.out⟩
              · refine ⟨(fun g b h => by
                    obtain ⟨rfl, rfl⟩ := Prod.mk.inj (Option.some.inj h)
                    exact ⟨p1, rfl, fun h => by
                      cases p1
                      · first | rfl | exact absurd rfl h
                      · first | rfl | exact absurd rfl h⟩), fun w' hG hg ρ h1 h2 h3 h4 h5 => ?_⟩
                have hG := hid hG
                have hs : Value.bool p1 = .bool true := hg 6 true rfl
                injection hs with hs
                subst hs
                have f66 : ρ (.tmp 66) = (WT true (.pointer (some ⟨g, m * 9, none⟩))) := h4 9 66 (by kernel_rfl) (by kernel_rfl)
                all_goals
                  try dsimp only [WF, WT] at *
                  clear h4 h5 hg
                  unfold OpY
                  go_simp
                  first | exact ⟨rfl, hG.out⟩ | exact ⟨Or.inr rfl, hG.out⟩ | exact ⟨Or.inl rfl, hG.out⟩
              · refine ⟨(fun g b h => by
                    obtain ⟨rfl, rfl⟩ := Prod.mk.inj (Option.some.inj h)
                    exact ⟨p1, rfl, fun h => by
                      cases p1
                      · first | rfl | exact absurd rfl h
                      · first | rfl | exact absurd rfl h⟩), fun w' hG hg ρ h1 h2 h3 h4 h5 => ?_⟩
                have hG := hid hG
                have hs : Value.bool p1 = .bool true := hg 6 true rfl
                injection hs with hs
                subst hs
                have f67 : ρ (.tmp 67) = (WT true (.pointer (some ⟨g, m * 9 + 5, none⟩))) := h4 10 67 (by kernel_rfl) (by kernel_rfl)
                have x := later hG.out e5
                all_goals
                  try dsimp only [WF, WT] at *
                  clear h4 h5 hg
                  unfold OpY
                  go_simp
                  first | exact ⟨rfl, hG.out⟩ | exact ⟨Or.inr rfl, hG.out⟩ | exact ⟨Or.inl rfl, hG.out⟩
              · refine ⟨(fun g b h => by
                    obtain ⟨rfl, rfl⟩ := Prod.mk.inj (Option.some.inj h)
                    exact ⟨p1, rfl, fun h => by
                      cases p1
                      · first | rfl | exact absurd rfl h
                      · first | rfl | exact absurd rfl h⟩), fun w' hG hg ρ h1 h2 h3 h4 h5 => ?_⟩
                have hG := hid hG
                have hs : Value.bool p1 = .bool true := hg 6 true rfl
                injection hs with hs
                subst hs
                have f3 : ρ (.tmp 3) = .slice (some ⟨g, 0, none⟩) L.length cc := h5 3 (by kernel_rfl)
                all_goals
                  try dsimp only [WF, WT] at *
                  clear h4 h5 hg
                  unfold OpY
                  go_simp
                  first | exact ⟨rfl, hG.out⟩ | exact ⟨Or.inr rfl, hG.out⟩ | exact ⟨Or.inl rfl, hG.out⟩
              · refine ⟨(fun g b h => by
                    obtain ⟨rfl, rfl⟩ := Prod.mk.inj (Option.some.inj h)
                    exact ⟨p1, rfl, fun h => by
                      cases p1
                      · first | rfl | exact absurd rfl h
                      · first | rfl | exact absurd rfl h⟩), fun w' hG hg ρ h1 h2 h3 h4 h5 => ?_⟩
                have hG := hid hG
                have hs : Value.bool p1 = .bool true := hg 6 true rfl
                injection hs with hs
                subst hs
                have f5 : ρ (.tmp 5) = .int .i64 (k : Int) := h5 5 (by kernel_rfl)
                all_goals
                  try dsimp only [WF, WT] at *
                  clear h4 h5 hg
                  unfold OpY
                  go_simp
                  first | exact ⟨rfl, hG.out⟩ | exact ⟨Or.inr rfl, hG.out⟩ | exact ⟨Or.inl rfl, hG.out⟩
              · refine ⟨(fun g b h => by
                    obtain ⟨rfl, rfl⟩ := Prod.mk.inj (Option.some.inj h)
                    exact ⟨p1, rfl, fun h => by
                      cases p1
                      · first | rfl | exact absurd rfl h
                      · first | rfl | exact absurd rfl h⟩), fun w' hG hg ρ h1 h2 h3 h4 h5 => ?_⟩
                have hG := hid hG
                have hs : Value.bool p1 = .bool true := hg 6 true rfl
                injection hs with hs
                subst hs
                have f69 : ρ (.tmp 69) = (WT true (.slice (some ⟨g, 0, none⟩) L.length cc)) := h4 12 69 (by kernel_rfl) (by kernel_rfl)
                have f70 : ρ (.tmp 70) = (WT true (.int .i64 (k : Int))) := h4 13 70 (by kernel_rfl) (by kernel_rfl)
                all_goals
                  try dsimp only [WF, WT] at *
                  clear h4 h5 hg
                  unfold OpY
                  go_simp
                  first | exact ⟨rfl, hG.out⟩ | exact ⟨Or.inr rfl, hG.out⟩ | exact ⟨Or.inl rfl, hG.out⟩
              · refine ⟨(fun g b h => by
                    obtain ⟨rfl, rfl⟩ := Prod.mk.inj (Option.some.inj h)
                    exact ⟨p1, rfl, fun h => by
                      cases p1
                      · first | rfl | exact absurd rfl h
                      · first | rfl | exact absurd rfl h⟩), fun w' hG hg ρ h1 h2 h3 h4 h5 => ?_⟩
                have hG := hid hG
                have hs : Value.bool p1 = .bool true := hg 6 true rfl
                injection hs with hs
                subst hs
                have f71 : ρ (.tmp 71) = (WT true (.pointer (some ⟨g, k * 9, none⟩))) := h4 14 71 (by kernel_rfl) (by kernel_rfl)
                all_goals
                  try dsimp only [WF, WT] at *
                  clear h4 h5 hg
                  unfold OpY
                  go_simp
                  first | exact ⟨rfl, hG.out⟩ | exact ⟨Or.inr rfl, hG.out⟩ | exact ⟨Or.inl rfl, hG.out⟩
              · refine ⟨(fun g b h => by
                    obtain ⟨rfl, rfl⟩ := Prod.mk.inj (Option.some.inj h)
                    exact ⟨p1, rfl, fun h => by
                      cases p1
                      · first | rfl | exact absurd rfl h
                      · first | rfl | exact absurd rfl h⟩), fun w' hG hg ρ h1 h2 h3 h4 h5 => ?_⟩
                have hG := hid hG
                have hs : Value.bool p1 = .bool true := hg 6 true rfl
                injection hs with hs
                subst hs
                have f72 : ρ (.tmp 72) = (WT true (.pointer (some ⟨g, k * 9 + 5, none⟩))) := h4 15 72 (by kernel_rfl) (by kernel_rfl)
                have x := later hG.out c5
                all_goals
                  try dsimp only [WF, WT] at *
                  clear h4 h5 hg
                  unfold OpY
                  go_simp
                  first | exact ⟨rfl, hG.out⟩ | exact ⟨Or.inr rfl, hG.out⟩ | exact ⟨Or.inl rfl, hG.out⟩
              · refine ⟨(fun g b h => by
                    obtain ⟨rfl, rfl⟩ := Prod.mk.inj (Option.some.inj h)
                    exact ⟨p1, rfl, fun h => by
                      cases p1
                      · first | rfl | exact absurd rfl h
                      · first | rfl | exact absurd rfl h⟩), fun w' hG hg ρ h1 h2 h3 h4 h5 => ?_⟩
                have hG := hid hG
                have hs : Value.bool p1 = .bool true := hg 6 true rfl
                injection hs with hs
                subst hs
                have f68 : ρ (.tmp 68) = (WT true (.int .i64 wv2)) := h4 11 68 (by kernel_rfl) (by kernel_rfl)
                have f73 : ρ (.tmp 73) = (WT true (.int .i64 wv)) := h4 16 73 (by kernel_rfl) (by kernel_rfl)
                have q5 := HE1.out rfl
                all_goals
                  try dsimp only [WF, WT] at *
                  clear h4 h5 hg
                  unfold OpY
                  go_simp
                  first | exact ⟨rfl, hG.out⟩ | exact ⟨Or.inr rfl, hG.out⟩ | exact ⟨Or.inl rfl, hG.out⟩
              · refine ⟨(fun g b h => by cases h), fun w' hG hg ρ h1 h2 h3 h4 h5 => ?_⟩
                have hG := hid hG
                have f63 : ρ (.tmp 63) = (.bool p1) := h4 6 63 (by kernel_rfl) (by kernel_rfl)
                have f74 : ρ (.tmp 74) = (WT p1 (.bool false)) := h4 17 74 (by kernel_rfl) (by kernel_rfl)
                cases p1
                all_goals
                  try dsimp only [WF, WT] at *
                  clear h4 h5 hg
                  unfold OpY
                  go_simp
                  first | exact ⟨rfl, hG.out⟩ | exact ⟨Or.inr rfl, hG.out⟩ | exact ⟨Or.inl rfl, hG.out⟩
              · refine ⟨(fun g b h => by cases h), fun w' hG hg ρ h1 h2 h3 h4 h5 => ?_⟩
                have hG := hid hG
                have f75 : ρ (.tmp 75) = (.bool false) := h4 18 75 (by kernel_rfl) (by kernel_rfl)
                all_goals
                  try dsimp only [WF, WT] at *
                  clear h4 h5 hg
                  unfold OpY
                  go_simp
                  first | exact ⟨rfl, hG.out⟩ | exact ⟨Or.inr rfl, hG.out⟩ | exact ⟨Or.inl rfl, hG.out⟩
              · refine ⟨(fun g b h => by
                    obtain ⟨rfl, rfl⟩ := Prod.mk.inj (Option.some.inj h)
                    exact ⟨false, rfl, fun h => by first | rfl | exact absurd rfl h⟩), fun w' hG hg ρ h1 h2 h3 h4 h5 => ?_⟩
                have hG := hid hG
                have f3 : ρ (.tmp 3) = .slice (some ⟨g, 0, none⟩) L.length cc := h5 3 (by kernel_rfl)
                all_goals
                  try dsimp only [WF, WT] at *
                  clear h4 h5 hg
                  unfold OpY
                  go_simp
                  first | exact ⟨rfl, hG.out⟩ | exact ⟨Or.inr rfl, hG.out⟩ | exact ⟨Or.inl rfl, hG.out⟩
              · refine ⟨(fun g b h => by
                    obtain ⟨rfl, rfl⟩ := Prod.mk.inj (Option.some.inj h)
                    exact ⟨false, rfl, fun h => by first | rfl | exact absurd rfl h⟩), fun w' hG hg ρ h1 h2 h3 h4 h5 => ?_⟩
                have hG := hid hG
                have f6 : ρ (.tmp 6) = .int .i64 (m : Int) := h5 6 (by kernel_rfl)
                all_goals
                  try dsimp only [WF, WT] at *
                  clear h4 h5 hg
                  unfold OpY
                  go_simp
                  first | exact ⟨rfl, hG.out⟩ | exact ⟨Or.inr rfl, hG.out⟩ | exact ⟨Or.inl rfl, hG.out⟩
              · refine ⟨(fun g b h => by
                    obtain ⟨rfl, rfl⟩ := Prod.mk.inj (Option.some.inj h)
                    exact ⟨false, rfl, fun h => by first | rfl | exact absurd rfl h⟩), fun w' hG hg ρ h1 h2 h3 h4 h5 => ?_⟩
                have hG := hid hG
                have f77 : ρ (.tmp 77) = (WF false (.slice (some ⟨g, 0, none⟩) L.length cc)) := h4 20 77 (by kernel_rfl) (by kernel_rfl)
                have f78 : ρ (.tmp 78) = (WF false (.int .i64 (m : Int))) := h4 21 78 (by kernel_rfl) (by kernel_rfl)
                all_goals
                  try dsimp only [WF, WT] at *
                  clear h4 h5 hg
                  unfold OpY
                  go_simp
                  first | exact ⟨rfl, hG.out⟩ | exact ⟨Or.inr rfl, hG.out⟩ | exact ⟨Or.inl rfl, hG.out⟩
              · refine ⟨(fun g b h => by
                    obtain ⟨rfl, rfl⟩ := Prod.mk.inj (Option.some.inj h)
                    exact ⟨false, rfl, fun h => by first | rfl | exact absurd rfl h⟩), fun w' hG hg ρ h1 h2 h3 h4 h5 => ?_⟩
                have hG := hid hG
                have f79 : ρ (.tmp 79) = (WF false (.pointer (some ⟨g, m * 9, none⟩))) := h4 22 79 (by kernel_rfl) (by kernel_rfl)
                all_goals
                  try dsimp only [WF, WT] at *
                  clear h4 h5 hg
                  unfold OpY
                  go_simp
                  first | exact ⟨rfl, hG.out⟩ | exact ⟨Or.inr rfl, hG.out⟩ | exact ⟨Or.inl rfl, hG.out⟩
              · refine ⟨(fun g b h => by
                    obtain ⟨rfl, rfl⟩ := Prod.mk.inj (Option.some.inj h)
                    exact ⟨false, rfl, fun h => by first | rfl | exact absurd rfl h⟩), fun w' hG hg ρ h1 h2 h3 h4 h5 => ?_⟩
                have hG := hid hG
                have f80 : ρ (.tmp 80) = (WF false (.pointer (some ⟨g, m * 9 + 3, none⟩))) := h4 23 80 (by kernel_rfl) (by kernel_rfl)
                have x := later hG.out e3
                all_goals
                  try dsimp only [WF, WT] at *
                  clear h4 h5 hg
                  unfold OpY
                  go_simp
                  first | exact ⟨rfl, hG.out⟩ | exact ⟨Or.inr rfl, hG.out⟩ | exact ⟨Or.inl rfl, hG.out⟩
              · refine ⟨(fun g b h => by
                    obtain ⟨rfl, rfl⟩ := Prod.mk.inj (Option.some.inj h)
                    exact ⟨false, rfl, fun h => by first | rfl | exact absurd rfl h⟩), fun w' hG hg ρ h1 h2 h3 h4 h5 => ?_⟩
                have hG := hid hG
                have f81 : ρ (.tmp 81) = (WF false (.int .i64 tw2)) := h4 24 81 (by kernel_rfl) (by kernel_rfl)
                have q5 := HP3.out
                all_goals
                  try dsimp only [WF, WT] at *
                  clear h4 h5 hg
                  unfold OpY
                  go_simp
                  first | exact ⟨rfl, hG.out⟩ | exact ⟨Or.inr rfl, hG.out⟩ | exact ⟨Or.inl rfl, hG.out⟩
              · refine ⟨(fun g b h => by
                    obtain ⟨rfl, rfl⟩ := Prod.mk.inj (Option.some.inj h)
                    exact ⟨false, rfl, fun h => by first | rfl | exact absurd rfl h⟩), fun w' hG hg ρ h1 h2 h3 h4 h5 => ?_⟩
                have hG := hid hG
                have f82 : ρ (.tmp 82) = (WF false (.bool p3)) := h4 25 82 (by kernel_rfl) (by kernel_rfl)
                all_goals
                  try dsimp only [WF, WT] at *
                  clear h4 h5 hg
                  unfold OpY
                  go_simp
                  first | exact ⟨rfl, hG.out⟩ | exact ⟨Or.inr rfl, hG.out⟩ | exact ⟨Or.inl rfl, hG.out⟩
              · refine ⟨(fun g b h => by
                    obtain ⟨rfl, rfl⟩ := Prod.mk.inj (Option.some.inj h)
                    exact ⟨p3, rfl, fun h => by
                      cases p3
                      · first | rfl | exact absurd rfl h
                      · first | rfl | exact absurd rfl h⟩), fun w' hG hg ρ h1 h2 h3 h4 h5 => ?_⟩
                have hG := hid hG
                have hs : Value.bool p3 = .bool true := hg 26 true rfl
                injection hs with hs
                subst hs
                have f3 : ρ (.tmp 3) = .slice (some ⟨g, 0, none⟩) L.length cc := h5 3 (by kernel_rfl)
                all_goals
                  try dsimp only [WF, WT] at *
                  clear h4 h5 hg
                  unfold OpY
                  go_simp
                  first | exact ⟨rfl, hG.out⟩ | exact ⟨Or.inr rfl, hG.out⟩ | exact ⟨Or.inl rfl, hG.out⟩
              · refine ⟨(fun g b h => by
                    obtain ⟨rfl, rfl⟩ := Prod.mk.inj (Option.some.inj h)
                    exact ⟨p3, rfl, fun h => by
                      cases p3
                      · first | rfl | exact absurd rfl h
                      · first | rfl | exact absurd rfl h⟩), fun w' hG hg ρ h1 h2 h3 h4 h5 => ?_⟩
                have hG := hid hG
                have hs : Value.bool p3 = .bool true := hg 26 true rfl
                injection hs with hs
                subst hs
                have f6 : ρ (.tmp 6) = .int .i64 (m : Int) := h5 6 (by kernel_rfl)
                all_goals
                  try dsimp only [WF, WT] at *
                  clear h4 h5 hg
                  unfold OpY
                  go_simp
                  first | exact ⟨rfl, hG.out⟩ | exact ⟨Or.inr rfl, hG.out⟩ | exact ⟨Or.inl rfl, hG.out⟩
              · refine ⟨(fun g b h => by
                    obtain ⟨rfl, rfl⟩ := Prod.mk.inj (Option.some.inj h)
                    exact ⟨p3, rfl, fun h => by
                      cases p3
                      · first | rfl | exact absurd rfl h
                      · first | rfl | exact absurd rfl h⟩), fun w' hG hg ρ h1 h2 h3 h4 h5 => ?_⟩
                have hG := hid hG
                have hs : Value.bool p3 = .bool true := hg 26 true rfl
                injection hs with hs
                subst hs
                have f84 : ρ (.tmp 84) = (WT true (.slice (some ⟨g, 0, none⟩) L.length cc)) := h4 27 84 (by kernel_rfl) (by kernel_rfl)
                have f85 : ρ (.tmp 85) = (WT true (.int .i64 (m : Int))) := h4 28 85 (by kernel_rfl) (by kernel_rfl)
                all_goals
                  try dsimp only [WF, WT] at *
                  clear h4 h5 hg
                  unfold OpY
                  go_simp
                  first | exact ⟨rfl, hG.out⟩ | exact ⟨Or.inr rfl, hG.out⟩ | exact ⟨Or.inl rfl, hG.out⟩
              · refine ⟨(fun g b h => by
                    obtain ⟨rfl, rfl⟩ := Prod.mk.inj (Option.some.inj h)
                    exact ⟨p3, rfl, fun h => by
                      cases p3
                      · first | rfl | exact absurd rfl h
                      · first | rfl | exact absurd rfl h⟩), fun w' hG hg ρ h1 h2 h3 h4 h5 => ?_⟩
                have hG := hid hG
                have hs : Value.bool p3 = .bool true := hg 26 true rfl
                injection hs with hs
                subst hs
                have f86 : ρ (.tmp 86) = (WT true (.pointer (some ⟨g, m * 9, none⟩))) := h4 29 86 (by kernel_rfl) (by kernel_rfl)
                all_goals
                  try dsimp only [WF, WT] at *
                  clear h4 h5 hg
                  unfold OpY
                  go_simp
                  first | exact ⟨rfl, hG.out⟩ | exact ⟨Or.inr rfl, hG.out⟩ | exact ⟨Or.inl rfl, hG.out⟩
              · refine ⟨(fun g b h => by
                    obtain ⟨rfl, rfl⟩ := Prod.mk.inj (Option.some.inj h)
                    exact ⟨p3, rfl, fun h => by
                      cases p3
                      · first | rfl | exact absurd rfl h
                      · first | rfl | exact absurd rfl h⟩), fun w' hG hg ρ h1 h2 h3 h4 h5 => ?_⟩
                have hG := hid hG
                have hs : Value.bool p3 = .bool true := hg 26 true rfl
                injection hs with hs
                subst hs
                have f87 : ρ (.tmp 87) = (WT true (.pointer (some ⟨g, m * 9 + 3, none⟩))) := h4 30 87 (by kernel_rfl) (by kernel_rfl)
                have x := later hG.out e3
                all_goals
                  try dsimp only [WF, WT] at *
                  clear h4 h5 hg
                  unfold OpY
                  go_simp
                  first | exact ⟨rfl, hG.out⟩ | exact ⟨Or.inr rfl, hG.out⟩ | exact ⟨Or.inl rfl, hG.out⟩
              · refine ⟨(fun g b h => by
                    obtain ⟨rfl, rfl⟩ := Prod.mk.inj (Option.some.inj h)
                    exact ⟨p3, rfl, fun h => by
                      cases p3
                      · first | rfl | exact absurd rfl h
                      · first | rfl | exact absurd rfl h⟩), fun w' hG hg ρ h1 h2 h3 h4 h5 => ?_⟩
                have hG := hid hG
                have hs : Value.bool p3 = .bool true := hg 26 true rfl
                injection hs with hs
                subst hs
                have f3 : ρ (.tmp 3) = .slice (some ⟨g, 0, none⟩) L.length cc := h5 3 (by kernel_rfl)
                all_goals
                  try dsimp only [WF, WT] at *
                  clear h4 h5 hg
                  unfold OpY
                  go_simp
                  first | exact ⟨rfl, hG.out⟩ | exact ⟨Or.inr rfl, hG.out⟩ | exact ⟨Or.inl rfl, hG.out⟩
              · refine ⟨(fun g b h => by
                    obtain ⟨rfl, rfl⟩ := Prod.mk.inj (Option.some.inj h)
                    exact ⟨p3, rfl, fun h => by
                      cases p3
                      · first | rfl | exact absurd rfl h
                      · first | rfl | exact absurd rfl h⟩), fun w' hG hg ρ h1 h2 h3 h4 h5 => ?_⟩
                have hG := hid hG
                have hs : Value.bool p3 = .bool true := hg 26 true rfl
                injection hs with hs
                subst hs
                have f5 : ρ (.tmp 5) = .int .i64 (k : Int) := h5 5 (by kernel_rfl)
                all_goals
                  try dsimp only [WF, WT] at *
                  clear h4 h5 hg
                  unfold OpY
                  go_simp
                  first | exact ⟨rfl, hG.out⟩ | exact ⟨Or.inr rfl, hG.out⟩ | exact ⟨Or.inl rfl, hG.out⟩
              · refine ⟨(fun g b h => by
                    obtain ⟨rfl, rfl⟩ := Prod.mk.inj (Option.some.inj h)
                    exact ⟨p3, rfl, fun h => by
                      cases p3
                      · first | rfl | exact absurd rfl h
                      · first | rfl | exact absurd rfl h⟩), fun w' hG hg ρ h1 h2 h3 h4 h5 => ?_⟩
                have hG := hid hG
                have hs : Value.bool p3 = .bool true := hg 26 true rfl
                injection hs with hs
                subst hs
                have f89 : ρ (.tmp 89) = (WT true (.slice (some ⟨g, 0, none⟩) L.length cc)) := h4 32 89 (by kernel_rfl) (by kernel_rfl)
                have f90 : ρ (.tmp 90) = (WT true (.int .i64 (k : Int))) := h4 33 90 (by kernel_rfl) (by kernel_rfl)
                all_goals
                  try dsimp only [WF, WT] at *
                  clear h4 h5 hg
                  unfold OpY
                  go_simp
                  first | exact ⟨rfl, hG.out⟩ | exact ⟨Or.inr rfl, hG.out⟩ | exact ⟨Or.inl rfl, hG.out⟩
              · refine ⟨(fun g b h => by
                    obtain ⟨rfl, rfl⟩ := Prod.mk.inj (Option.some.inj h)
                    exact ⟨p3, rfl, fun h => by
                      cases p3
                      · first | rfl | exact absurd rfl h
                      · first | rfl | exact absurd rfl h⟩), fun w' hG hg ρ h1 h2 h3 h4 h5 => ?_⟩
                have hG := hid hG
                have hs : Value.bool p3 = .bool true := hg 26 true rfl
                injection hs with hs
                subst hs
                have f91 : ρ (.tmp 91) = (WT true (.pointer (some ⟨g, k * 9, none⟩))) := h4 34 91 (by kernel_rfl) (by kernel_rfl)
                all_goals
                  try dsimp only [WF, WT] at *
                  clear h4 h5 hg
                  unfold OpY
                  go_simp
                  first | exact ⟨rfl, hG.out⟩ | exact ⟨Or.inr rfl, hG.out⟩ | exact ⟨Or.inl rfl, hG.out⟩
              · refine ⟨(fun g b h => by
                    obtain ⟨rfl, rfl⟩ := Prod.mk.inj (Option.some.inj h)
                    exact ⟨p3, rfl, fun h => by
                      cases p3
                      · first | rfl | exact absurd rfl h
                      · first | rfl | exact absurd rfl h⟩), fun w' hG hg ρ h1 h2 h3 h4 h5 => ?_⟩
                have hG := hid hG
                have hs : Value.bool p3 = .bool true := hg 26 true rfl
                injection hs with hs
                subst hs
                have f92 : ρ (.tmp 92) = (WT true (.pointer (some ⟨g, k * 9 + 2, none⟩))) := h4 35 92 (by kernel_rfl) (by kernel_rfl)
                have x := later hG.out c2
                all_goals
                  try dsimp only [WF, WT] at *
                  clear h4 h5 hg
                  unfold OpY
                  go_simp
                  first | exact ⟨rfl, hG.out⟩ | exact ⟨Or.inr rfl, hG.out⟩ | exact ⟨Or.inl rfl, hG.out⟩
              · refine ⟨(fun g b h => by
                    obtain ⟨rfl, rfl⟩ := Prod.mk.inj (Option.some.inj h)
                    exact ⟨p3, rfl, fun h => by
                      cases p3
                      · first | rfl | exact absurd rfl h
                      · first | rfl | exact absurd rfl h⟩), fun w' hG hg ρ h1 h2 h3 h4 h5 => ?_⟩
                have hG := hid hG
                have hs : Value.bool p3 = .bool true := hg 26 true rfl
                injection hs with hs
                subst hs
                have f88 : ρ (.tmp 88) = (WT true (.int .i64 tw2)) := h4 31 88 (by kernel_rfl) (by kernel_rfl)
                have f93 : ρ (.tmp 93) = (WT true (.int .i64 fr)) := h4 36 93 (by kernel_rfl) (by kernel_rfl)
                have q5 := HP4.out
                all_goals
                  try dsimp only [WF, WT] at *
                  clear h4 h5 hg
                  unfold OpY
                  go_simp
                  first | exact ⟨rfl, hG.out⟩ | exact ⟨Or.inr rfl, hG.out⟩ | exact ⟨Or.inl rfl, hG.out⟩
              · refine ⟨(fun g b h => by
                    obtain ⟨rfl, rfl⟩ := Prod.mk.inj (Option.some.inj h)
                    exact ⟨false, rfl, fun h => by first | rfl | exact absurd rfl h⟩), fun w' hG hg ρ h1 h2 h3 h4 h5 => ?_⟩
                have hG := hid hG
                have f83 : ρ (.tmp 83) = (WF false (.bool p3)) := h4 26 83 (by kernel_rfl) (by kernel_rfl)
                have f94 : ρ (.tmp 94) = (WT p3 (.bool p4)) := h4 37 94 (by kernel_rfl) (by kernel_rfl)
                obtain rfl := HP34.out
                cases p3
                all_goals
                  try dsimp only [WF, WT] at *
                  clear h4 h5 hg
                  unfold OpY
                  go_simp
                  first | exact ⟨rfl, hG.out⟩ | exact ⟨Or.inr rfl, hG.out⟩ | exact ⟨Or.inl rfl, hG.out⟩
              · refine ⟨(fun g b h => by
                    obtain ⟨rfl, rfl⟩ := Prod.mk.inj (Option.some.inj h)
                    exact ⟨false, rfl, fun h => by first | rfl | exact absurd rfl h⟩), fun w' hG hg ρ h1 h2 h3 h4 h5 => ?_⟩
                have hG := hid hG
                have f95 : ρ (.tmp 95) = (WF false (.bool p34)) := h4 38 95 (by kernel_rfl) (by kernel_rfl)
                all_goals
                  try dsimp only [WF, WT] at *
                  clear h4 h5 hg
                  unfold OpY
                  go_simp
                  first | exact ⟨rfl, hG.out⟩ | exact ⟨Or.inr rfl, hG.out⟩ | exact ⟨Or.inl rfl, hG.out⟩
              · refine ⟨(fun g b h => by
                    obtain ⟨rfl, rfl⟩ := Prod.mk.inj (Option.some.inj h)
                    exact ⟨p34, rfl, fun h => by
                      cases p34
                      · first | rfl | exact absurd rfl h
                      · first | rfl | exact absurd rfl h⟩), fun w' hG hg ρ h1 h2 h3 h4 h5 => ?_⟩
                have hG := hid hG
                have hs : Value.bool p34 = .bool true := hg 39 true rfl
                injection hs with hs
                subst hs
                have f3 : ρ (.tmp 3) = .slice (some ⟨g, 0, none⟩) L.length cc := h5 3 (by kernel_rfl)
                all_goals
                  try dsimp only [WF, WT] at *
                  clear h4 h5 hg
                  unfold OpY
                  go_simp
                  first | exact ⟨rfl, hG.out⟩ | exact ⟨Or.inr rfl, hG.out⟩ | exact ⟨Or.inl rfl, hG.out⟩
              · refine ⟨(fun g b h => by
                    obtain ⟨rfl, rfl⟩ := Prod.mk.inj (Option.some.inj h)
                    exact ⟨p34, rfl, fun h => by
                      cases p34
                      · first | rfl | exact absurd rfl h
                      · first | rfl | exact absurd rfl h⟩), fun w' hG hg ρ h1 h2 h3 h4 h5 => ?_⟩
                have hG := hid hG
                have hs : Value.bool p34 = .bool true := hg 39 true rfl
                injection hs with hs
                subst hs
                have f6 : ρ (.tmp 6) = .int .i64 (m : Int) := h5 6 (by kernel_rfl)
                all_goals
                  try dsimp only [WF, WT] at *
                  clear h4 h5 hg
                  unfold OpY
                  go_simp
                  first | exact ⟨rfl, hG.out⟩ | exact ⟨Or.inr rfl, hG.out⟩ | exact ⟨Or.inl rfl, hG.out⟩
              · refine ⟨(fun g b h => by
                    obtain ⟨rfl, rfl⟩ := Prod.mk.inj (Option.some.inj h)
                    exact ⟨p34, rfl, fun h => by
                      cases p34
                      · first | rfl | exact absurd rfl h
                      · first | rfl | exact absurd rfl h⟩), fun w' hG hg ρ h1 h2 h3 h4 h5 => ?_⟩
                have hG := hid hG
                have hs : Value.bool p34 = .bool true := hg 39 true rfl
                injection hs with hs
                subst hs
                have f97 : ρ (.tmp 97) = (WT true (.slice (some ⟨g, 0, none⟩) L.length cc)) := h4 40 97 (by kernel_rfl) (by kernel_rfl)
                have f98 : ρ (.tmp 98) = (WT true (.int .i64 (m : Int))) := h4 41 98 (by kernel_rfl) (by kernel_rfl)
                all_goals
                  try dsimp only [WF, WT] at *
                  clear h4 h5 hg
                  unfold OpY
                  go_simp
                  first | exact ⟨rfl, hG.out⟩ | exact ⟨Or.inr rfl, hG.out⟩ | exact ⟨Or.inl rfl, hG.out⟩
              · refine ⟨(fun g b h => by
                    obtain ⟨rfl, rfl⟩ := Prod.mk.inj (Option.some.inj h)
                    exact ⟨p34, rfl, fun h => by
                      cases p34
                      · first | rfl | exact absurd rfl h
                      · first | rfl | exact absurd rfl h⟩), fun w' hG hg ρ h1 h2 h3 h4 h5 => ?_⟩
                have hG := hid hG
                have hs : Value.bool p34 = .bool true := hg 39 true rfl
                injection hs with hs
                subst hs
                have f99 : ρ (.tmp 99) = (WT true (.pointer (some ⟨g, m * 9, none⟩))) := h4 42 99 (by kernel_rfl) (by kernel_rfl)
                all_goals
                  try dsimp only [WF, WT] at *
                  clear h4 h5 hg
                  unfold OpY
                  go_simp
                  first | exact ⟨rfl, hG.out⟩ | exact ⟨Or.inr rfl, hG.out⟩ | exact ⟨Or.inl rfl, hG.out⟩
              · refine ⟨(fun g b h => by
                    obtain ⟨rfl, rfl⟩ := Prod.mk.inj (Option.some.inj h)
                    exact ⟨p34, rfl, fun h => by
                      cases p34
                      · first | rfl | exact absurd rfl h
                      · first | rfl | exact absurd rfl h⟩), fun w' hG hg ρ h1 h2 h3 h4 h5 => ?_⟩
                have hG := hid hG
                have hs : Value.bool p34 = .bool true := hg 39 true rfl
                injection hs with hs
                subst hs
                have f100 : ρ (.tmp 100) = (WT true (.pointer (some ⟨g, m * 9 + 5, none⟩))) := h4 43 100 (by kernel_rfl) (by kernel_rfl)
                have x := later hG.out e5
                all_goals
                  try dsimp only [WF, WT] at *
                  clear h4 h5 hg
                  unfold OpY
                  go_simp
                  first | exact ⟨rfl, hG.out⟩ | exact ⟨Or.inr rfl, hG.out⟩ | exact ⟨Or.inl rfl, hG.out⟩
              · refine ⟨(fun g b h => by
                    obtain ⟨rfl, rfl⟩ := Prod.mk.inj (Option.some.inj h)
                    exact ⟨p34, rfl, fun h => by
                      cases p34
                      · first | rfl | exact absurd rfl h
                      · first | rfl | exact absurd rfl h⟩), fun w' hG hg ρ h1 h2 h3 h4 h5 => ?_⟩
                have hG := hid hG
                have hs : Value.bool p34 = .bool true := hg 39 true rfl
                injection hs with hs
                subst hs
                have f3 : ρ (.tmp 3) = .slice (some ⟨g, 0, none⟩) L.length cc := h5 3 (by kernel_rfl)
                all_goals
                  try dsimp only [WF, WT] at *
                  clear h4 h5 hg
                  unfold OpY
                  go_simp
                  first | exact ⟨rfl, hG.out⟩ | exact ⟨Or.inr rfl, hG.out⟩ | exact ⟨Or.inl rfl, hG.out⟩
              · refine ⟨(fun g b h => by
                    obtain ⟨rfl, rfl⟩ := Prod.mk.inj (Option.some.inj h)
                    exact ⟨p34, rfl, fun h => by
                      cases p34
                      · first | rfl | exact absurd rfl h
                      · first | rfl | exact absurd rfl h⟩), fun w' hG hg ρ h1 h2 h3 h4 h5 => ?_⟩
                have hG := hid hG
                have hs : Value.bool p34 = .bool true := hg 39 true rfl
                injection hs with hs
                subst hs
                have f5 : ρ (.tmp 5) = .int .i64 (k : Int) := h5 5 (by kernel_rfl)
                all_goals
                  try dsimp only [WF, WT] at *
                  clear h4 h5 hg
                  unfold OpY
                  go_simp
                  first | exact ⟨rfl, hG.out⟩ | exact ⟨Or.inr rfl, hG.out⟩ | exact ⟨Or.inl rfl, hG.out⟩
              · refine ⟨(fun g b h => by
                    obtain ⟨rfl, rfl⟩ := Prod.mk.inj (Option.some.inj h)
                    exact ⟨p34, rfl, fun h => by
                      cases p34
                      · first | rfl | exact absurd rfl h
                      · first | rfl | exact absurd rfl h⟩), fun w' hG hg ρ h1 h2 h3 h4 h5 => ?_⟩
                have hG := hid hG
                have hs : Value.bool p34 = .bool true := hg 39 true rfl
                injection hs with hs
                subst hs
                have f102 : ρ (.tmp 102) = (WT true (.slice (some ⟨g, 0, none⟩) L.length cc)) := h4 45 102 (by kernel_rfl) (by kernel_rfl)
                have f103 : ρ (.tmp 103) = (WT true (.int .i64 (k : Int))) := h4 46 103 (by kernel_rfl) (by kernel_rfl)
                all_goals
                  try dsimp only [WF, WT] at *
                  clear h4 h5 hg
                  unfold OpY
                  go_simp
                  first | exact ⟨rfl, hG.out⟩ | exact ⟨Or.inr rfl, hG.out⟩ | exact ⟨Or.inl rfl, hG.out⟩
              · refine ⟨(fun g b h => by
                    obtain ⟨rfl, rfl⟩ := Prod.mk.inj (Option.some.inj h)
                    exact ⟨p34, rfl, fun h => by
                      cases p34
                      · first | rfl | exact absurd rfl h
                      · first | rfl | exact absurd rfl h⟩), fun w' hG hg ρ h1 h2 h3 h4 h5 => ?_⟩
                have hG := hid hG
                have hs : Value.bool p34 = .bool true := hg 39 true rfl
                injection hs with hs
                subst hs
                have f104 : ρ (.tmp 104) = (WT true (.pointer (some ⟨g, k * 9, none⟩))) := h4 47 104 (by kernel_rfl) (by kernel_rfl)
                all_goals
                  try dsimp only [WF, WT] at *
                  clear h4 h5 hg
                  unfold OpY
                  go_simp
                  first | exact ⟨rfl, hG.out⟩ | exact ⟨Or.inr rfl, hG.out⟩ | exact ⟨Or.inl rfl, hG.out⟩
              · refine ⟨(fun g b h => by
                    obtain ⟨rfl, rfl⟩ := Prod.mk.inj (Option.some.inj h)
                    exact ⟨p34, rfl, fun h => by
                      cases p34
                      · first | rfl | exact absurd rfl h
                      · first | rfl | exact absurd rfl h⟩), fun w' hG hg ρ h1 h2 h3 h4 h5 => ?_⟩
                have hG := hid hG
                have hs : Value.bool p34 = .bool true := hg 39 true rfl
                injection hs with hs
                subst hs
                have f105 : ρ (.tmp 105) = (WT true (.pointer (some ⟨g, k * 9 + 4, none⟩))) := h4 48 105 (by kernel_rfl) (by kernel_rfl)
                have x := later hG.out c4
                all_goals
                  try dsimp only [WF, WT] at *
                  clear h4 h5 hg
                  unfold OpY
                  go_simp
                  first | exact ⟨rfl, hG.out⟩ | exact ⟨Or.inr rfl, hG.out⟩ | exact ⟨Or.inl rfl, hG.out⟩
              · refine ⟨(fun g b h => by
                    obtain ⟨rfl, rfl⟩ := Prod.mk.inj (Option.some.inj h)
                    exact ⟨p34, rfl, fun h => by
                      cases p34
                      · first | rfl | exact absurd rfl h
                      · first | rfl | exact absurd rfl h⟩), fun w' hG hg ρ h1 h2 h3 h4 h5 => ?_⟩
                have hG := hid hG
                have hs : Value.bool p34 = .bool true := hg 39 true rfl
                injection hs with hs
                subst hs
                have f101 : ρ (.tmp 101) = (WT true (.int .i64 wv2)) := h4 44 101 (by kernel_rfl) (by kernel_rfl)
                have f106 : ρ (.tmp 106) = (WT true (.int .i64 rv)) := h4 49 106 (by kernel_rfl) (by kernel_rfl)
                have q5 := HE2.out rfl
                all_goals
                  try dsimp only [WF, WT] at *
                  clear h4 h5 hg
                  unfold OpY
                  go_simp
                  first | exact ⟨rfl, hG.out⟩ | exact ⟨Or.inr rfl, hG.out⟩ | exact ⟨Or.inl rfl, hG.out⟩
              · refine ⟨(fun g b h => by
                    obtain ⟨rfl, rfl⟩ := Prod.mk.inj (Option.some.inj h)
                    exact ⟨false, rfl, fun h => by first | rfl | exact absurd rfl h⟩), fun w' hG hg ρ h1 h2 h3 h4 h5 => ?_⟩
                have hG := hid hG
                have f96 : ρ (.tmp 96) = (WF false (.bool p34)) := h4 39 96 (by kernel_rfl) (by kernel_rfl)
                have f107 : ρ (.tmp 107) = (WT p34 (.bool false)) := h4 50 107 (by kernel_rfl) (by kernel_rfl)
                cases p34
                all_goals
                  try dsimp only [WF, WT] at *
                  clear h4 h5 hg
                  unfold OpY
                  go_simp
                  first | exact ⟨rfl, hG.out⟩ | exact ⟨Or.inr rfl, hG.out⟩ | exact ⟨Or.inl rfl, hG.out⟩
              · refine ⟨(fun g b h => by cases h), fun w' hG hg ρ h1 h2 h3 h4 h5 => ?_⟩
                have hG := hid hG
                have f76 : ρ (.tmp 76) = (.bool false) := h4 19 76 (by kernel_rfl) (by kernel_rfl)
                have f108 : ρ (.tmp 108) = (WF false (.bool false)) := h4 51 108 (by kernel_rfl) (by kernel_rfl)
                all_goals
                  try dsimp only [WF, WT] at *
                  clear h4 h5 hg
                  unfold OpY
                  go_simp
                  first | exact ⟨rfl, hG.out⟩ | exact ⟨Or.inr rfl, hG.out⟩ | exact ⟨Or.inl rfl, hG.out⟩
              · refine ⟨(fun g b h => by cases h), fun w' hG hg ρ h1 h2 h3 h4 h5 => ?_⟩
                have hG := hid hG
                have f109 : ρ (.tmp 109) = (.bool false) := h4 52 109 (by kernel_rfl) (by kernel_rfl)
                all_goals
                  try dsimp only [WF, WT] at *
                  clear h4 h5 hg
                  unfold OpY
                  go_simp
                  first | exact ⟨rfl, hG.out⟩ | exact ⟨Or.inr rfl, hG.out⟩ | exact ⟨Or.inl rfl, hG.out⟩
              · refine ⟨(fun g b h => by
                    obtain ⟨rfl, rfl⟩ := Prod.mk.inj (Option.some.inj h)
                    exact ⟨false, rfl, fun h => by first | rfl | exact absurd rfl h⟩), fun w' hG hg ρ h1 h2 h3 h4 h5 => ?_⟩
                have hG := hid hG
                have f3 : ρ (.tmp 3) = .slice (some ⟨g, 0, none⟩) L.length cc := h5 3 (by kernel_rfl)
                all_goals
                  try dsimp only [WF, WT] at *
                  clear h4 h5 hg
                  unfold OpY
                  go_simp
                  first | exact ⟨rfl, hG.out⟩ | exact ⟨Or.inr rfl, hG.out⟩ | exact ⟨Or.inl rfl, hG.out⟩
              · refine ⟨(fun g b h => by
                    obtain ⟨rfl, rfl⟩ := Prod.mk.inj (Option.some.inj h)
                    exact ⟨false, rfl, fun h => by first | rfl | exact absurd rfl h⟩), fun w' hG hg ρ h1 h2 h3 h4 h5 => ?_⟩
                have hG := hid hG
                have f6 : ρ (.tmp 6) = .int .i64 (m : Int) := h5 6 (by kernel_rfl)
                all_goals
                  try dsimp only [WF, WT] at *
                  clear h4 h5 hg
                  unfold OpY
                  go_simp
                  first | exact ⟨rfl, hG.out⟩ | exact ⟨Or.inr rfl, hG.out⟩ | exact ⟨Or.inl rfl, hG.out⟩
              · refine ⟨(fun g b h => by
                    obtain ⟨rfl, rfl⟩ := Prod.mk.inj (Option.some.inj h)
                    exact ⟨false, rfl, fun h => by first | rfl | exact absurd rfl h⟩), fun w' hG hg ρ h1 h2 h3 h4 h5 => ?_⟩
                have hG := hid hG
                have f111 : ρ (.tmp 111) = (WF false (.slice (some ⟨g, 0, none⟩) L.length cc)) := h4 54 111 (by kernel_rfl) (by kernel_rfl)
                have f112 : ρ (.tmp 112) = (WF false (.int .i64 (m : Int))) := h4 55 112 (by kernel_rfl) (by kernel_rfl)
                all_goals
                  try dsimp only [WF, WT] at *
                  clear h4 h5 hg
                  unfold OpY
                  go_simp
                  first | exact ⟨rfl, hG.out⟩ | exact ⟨Or.inr rfl, hG.out⟩ | exact ⟨Or.inl rfl, hG.out⟩
              · refine ⟨(fun g b h => by
                    obtain ⟨rfl, rfl⟩ := Prod.mk.inj (Option.some.inj h)
                    exact ⟨false, rfl, fun h => by first | rfl | exact absurd rfl h⟩), fun w' hG hg ρ h1 h2 h3 h4 h5 => ?_⟩
                have hG := hid hG
                have f113 : ρ (.tmp 113) = (WF false (.pointer (some ⟨g, m * 9, none⟩))) := h4 56 113 (by kernel_rfl) (by kernel_rfl)
                all_goals
                  try dsimp only [WF, WT] at *
                  clear h4 h5 hg
                  unfold OpY
                  go_simp
                  first | exact ⟨rfl, hG.out⟩ | exact ⟨Or.inr rfl, hG.out⟩ | exact ⟨Or.inl rfl, hG.out⟩
              · refine ⟨(fun g b h => by
                    obtain ⟨rfl, rfl⟩ := Prod.mk.inj (Option.some.inj h)
                    exact ⟨false, rfl, fun h => by first | rfl | exact absurd rfl h⟩), fun w' hG hg ρ h1 h2 h3 h4 h5 => ?_⟩
                have hG := hid hG
                have f114 : ρ (.tmp 114) = (WF false (.pointer (some ⟨g, m * 9 + 4, none⟩))) := h4 57 114 (by kernel_rfl) (by kernel_rfl)
                have x := later hG.out e4
                all_goals
                  try dsimp only [WF, WT] at *
                  clear h4 h5 hg
                  unfold OpY
                  go_simp
                  first | exact ⟨rfl, hG.out⟩ | exact ⟨Or.inr rfl, hG.out⟩ | exact ⟨Or.inl rfl, hG.out⟩
              · refine ⟨(fun g b h => by
                    obtain ⟨rfl, rfl⟩ := Prod.mk.inj (Option.some.inj h)
                    exact ⟨false, rfl, fun h => by first | rfl | exact absurd rfl h⟩), fun w' hG hg ρ h1 h2 h3 h4 h5 => ?_⟩
                have hG := hid hG
                have f3 : ρ (.tmp 3) = .slice (some ⟨g, 0, none⟩) L.length cc := h5 3 (by kernel_rfl)
                all_goals
                  try dsimp only [WF, WT] at *
                  clear h4 h5 hg
                  unfold OpY
                  go_simp
                  first | exact ⟨rfl, hG.out⟩ | exact ⟨Or.inr rfl, hG.out⟩ | exact ⟨Or.inl rfl, hG.out⟩
              · refine ⟨(fun g b h => by
                    obtain ⟨rfl, rfl⟩ := Prod.mk.inj (Option.some.inj h)
                    exact ⟨false, rfl, fun h => by first | rfl | exact absurd rfl h⟩), fun w' hG hg ρ h1 h2 h3 h4 h5 => ?_⟩
                have hG := hid hG
                have f5 : ρ (.tmp 5) = .int .i64 (k : Int) := h5 5 (by kernel_rfl)
                all_goals
                  try dsimp only [WF, WT] at *
                  clear h4 h5 hg
                  unfold OpY
                  go_simp
                  first | exact ⟨rfl, hG.out⟩ | exact ⟨Or.inr rfl, hG.out⟩ | exact ⟨Or.inl rfl, hG.out⟩
              · refine ⟨(fun g b h => by
                    obtain ⟨rfl, rfl⟩ := Prod.mk.inj (Option.some.inj h)
                    exact ⟨false, rfl, fun h => by first | rfl | exact absurd rfl h⟩), fun w' hG hg ρ h1 h2 h3 h4 h5 => ?_⟩
                have hG := hid hG
                have f116 : ρ (.tmp 116) = (WF false (.slice (some ⟨g, 0, none⟩) L.length cc)) := h4 59 116 (by kernel_rfl) (by kernel_rfl)
                have f117 : ρ (.tmp 117) = (WF false (.int .i64 (k : Int))) := h4 60 117 (by kernel_rfl) (by kernel_rfl)
                all_goals
                  try dsimp only [WF, WT] at *
                  clear h4 h5 hg
                  unfold OpY
                  go_simp
                  first | exact ⟨rfl, hG.out⟩ | exact ⟨Or.inr rfl, hG.out⟩ | exact ⟨Or.inl rfl, hG.out⟩
              · refine ⟨(fun g b h => by
                    obtain ⟨rfl, rfl⟩ := Prod.mk.inj (Option.some.inj h)
                    exact ⟨false, rfl, fun h => by first | rfl | exact absurd rfl h⟩), fun w' hG hg ρ h1 h2 h3 h4 h5 => ?_⟩
                have hG := hid hG
                have f118 : ρ (.tmp 118) = (WF false (.pointer (some ⟨g, k * 9, none⟩))) := h4 61 118 (by kernel_rfl) (by kernel_rfl)
                all_goals
                  try dsimp only [WF, WT] at *
                  clear h4 h5 hg
                  unfold OpY
                  go_simp
                  first | exact ⟨rfl, hG.out⟩ | exact ⟨Or.inr rfl, hG.out⟩ | exact ⟨Or.inl rfl, hG.out⟩
              · refine ⟨(fun g b h => by
                    obtain ⟨rfl, rfl⟩ := Prod.mk.inj (Option.some.inj h)
                    exact ⟨false, rfl, fun h => by first | rfl | exact absurd rfl h⟩), fun w' hG hg ρ h1 h2 h3 h4 h5 => ?_⟩
                have hG := hid hG
                have f119 : ρ (.tmp 119) = (WF false (.pointer (some ⟨g, k * 9 + 4, none⟩))) := h4 62 119 (by kernel_rfl) (by kernel_rfl)
                have x := later hG.out c4
                all_goals
                  try dsimp only [WF, WT] at *
                  clear h4 h5 hg
                  unfold OpY
                  go_simp
                  first | exact ⟨rfl, hG.out⟩ | exact ⟨Or.inr rfl, hG.out⟩ | exact ⟨Or.inl rfl, hG.out⟩
              · refine ⟨(fun g b h => by
                    obtain ⟨rfl, rfl⟩ := Prod.mk.inj (Option.some.inj h)
                    exact ⟨false, rfl, fun h => by first | rfl | exact absurd rfl h⟩), fun w' hG hg ρ h1 h2 h3 h4 h5 => ?_⟩
                have hG := hid hG
                have f115 : ρ (.tmp 115) = (WF false (.int .i64 rv2)) := h4 58 115 (by kernel_rfl) (by kernel_rfl)
                have f120 : ρ (.tmp 120) = (WF false (.int .i64 rv)) := h4 63 120 (by kernel_rfl) (by kernel_rfl)
                have q5 := HP6.out
                all_goals
                  try dsimp only [WF, WT] at *
                  clear h4 h5 hg
                  unfold OpY
                  go_simp
                  first | exact ⟨rfl, hG.out⟩ | exact ⟨Or.inr rfl, hG.out⟩ | exact ⟨Or.inl rfl, hG.out⟩
              · refine ⟨(fun g b h => by cases h), fun w' hG hg ρ h1 h2 h3 h4 h5 => ?_⟩
                have hG := hid hG
                have f110 : ρ (.tmp 110) = (.bool false) := h4 53 110 (by kernel_rfl) (by kernel_rfl)
                have f121 : ρ (.tmp 121) = (WF false (.bool false)) := h4 64 121 (by kernel_rfl) (by kernel_rfl)
                all_goals
                  try dsimp only [WF, WT] at *
                  clear h4 h5 hg
                  unfold OpY
                  go_simp
                  first | exact ⟨rfl, hG.out⟩ | exact ⟨Or.inr rfl, hG.out⟩ | exact ⟨Or.inl rfl, hG.out⟩
            case hdone =>
              intro w6 hG
              go_wp2_with fail
              go_roundw
              case rel => exact ⟨m + 1, HMK.out, rfl, hid (HBM.out.trans (hG.mono HBM.out.size))⟩
              case measure => exact (by have := HMK.out; dsimp only [intOf]; omega)
          · obtain rfl : m = k := by omega
            have i6 : decide ((m : Int) < (m : Int)) = false := by rw [decide_eq_false_iff_not]; omega
            have i7 : decide (m < m) = false := by rw [decide_eq_false_iff_not]; omega
            go_wp2_with fail
            go_roundw
            case rel => exact ⟨m + 1, HLT.out, rfl, HBM⟩
            case measure => exact (by have := HLT.out; dsimp only [intOf]; omega)
    · obtain rfl : k = L.length := by omega
      have j1 : decide ((L.length : Int) < (L.length : Int)) = false := by rw [decide_eq_false_iff_not]; omega
      have j4 : decide (L.length < L.length) = false := by rw [decide_eq_false_iff_not]; omega
      go_wp2_with fail
      go_loopw [7] (fun i wr => ∃ k : Nat, k ≤ L.length ∧ i = .int .i64 (k : Int) ∧ Hid (Below w2.heap.size w2 wr)) (fun i _ => L.length - (intOf i).toNat)
      case atStart => exact ⟨0, Nat.zero_le _, rfl, HBR⟩
      case round =>
        clear HBR j1 j4
        obtain ⟨k, hk, rfl, HBR⟩ := hrel
        by_cases hlt : k < L.length
        · have HLT := hid hlt
          have j1 : decide ((k : Int) < (L.length : Int)) = true := by rw [decide_eq_true_iff]; omega
          have j2 : (0 : Int) ≤ (k : Int) := by omega
          have j3 : IntKind.i64.wrap ((k : Int) + 1) = (k : Int) + 1 := IntWalk.i64_in _ (by have := HL.out; omega)
          have j4 : decide (k < L.length) = true := by rw [decide_eq_true_iff]; omega
          have j5 : (k : Int) < (L.length : Int) := by omega
          obtain ⟨g, c, H, hsl, hgl, hcell, hown⟩ := HAT.out.cells (by omega)
          cases hsl
          have hcw : ∀ (j : Nat) (u : Value), j < 9 → (attL (L.getD k Att.zero) (H k false) (H k true))[j]? = some u → wr.cell? ⟨g, k * 9 + j, none⟩ = some u := fun j u hj hu => (HBR.out.cell (p := ⟨g, k * 9 + j, none⟩) hgl).trans (hcell k j u hlt hj hu)
          have hok := HA.out k hlt
          have hownR := hown k false hlt
          have hownW := hown k true hlt
          obtain ⟨B, hB⟩ : ∃ B, L.getD k Att.zero = B := ⟨_, rfl⟩
          rw [hB] at hok hownR hownW hcw
          obtain ⟨th, tx, fr, tw, rv, wv, com, rds, wrs⟩ := B
          obtain ⟨rn, hrn⟩ : ∃ rn, rds.length = rn := ⟨_, rfl⟩
          obtain ⟨wn, hwn⟩ : ∃ wn, wrs.length = wn := ⟨_, rfl⟩
          have hownR : w2.ownsRow w1.heap.size 36 2 (H k false) rds.length (pairsL rds) := hownR
          have hownW : w2.ownsRow w1.heap.size 36 2 (H k true) wrs.length (pairsL wrs) := hownW
          rw [hrn] at hownR
          rw [hwn] at hownW
          obtain ⟨rx, rc, hr⟩ := own_is hownR
          obtain ⟨wx, wc, hw⟩ := own_is hownW
          rw [hr] at hownR hcw
          rw [hw] at hownW hcw
          have c0 := hcw 0 (.int .i64 th) (by decide) rfl
          have c1 := hcw 1 (.int .i64 tx) (by decide) rfl
          have c2 := hcw 2 (.int .i64 fr) (by decide) rfl
          have c3 := hcw 3 (.int .i64 tw) (by decide) rfl
          have c4 := hcw 4 (.int .i64 rv) (by decide) rfl
          have c5 := hcw 5 (.int .i64 wv) (by decide) rfl
          have c6 := hcw 6 (.bool com) (by decide) rfl
          have c7 := hcw 7 (.slice rx rn rc) (by decide) rfl
          have c8 := hcw 8 (.slice wx wn wc) (by decide) rfl
          rw [Nat.add_zero] at c0
          have hrd : ∀ i, i < rn → 0 ≤ (rds.getD i (0, 0)).1 ∧ (rds.getD i (0, 0)).1 < V := fun i hi => hok.rds _ (by rw [List.getD_eq_getElem?_getD, List.getElem?_eq_getElem (by omega)]; exact List.getElem_mem _)
          have hwd : ∀ i, i < wn → 0 ≤ (wrs.getD i (0, 0)).1 ∧ (wrs.getD i (0, 0)).1 < V := fun i hi => hok.wrs _ (by rw [List.getD_eq_getElem?_getD, List.getElem?_eq_getElem (by omega)]; exact List.getElem_mem _)
          have hup : ∀ i, i + 1 < wn → (wrs.getD i (0, 0)).1 < (wrs.getD (i + 1) (0, 0)).1 := fun i hi => rising_get (l := wrs) hok.up (by omega)
          have hnc : com = false → wv = 0 := hok.nc
          have hnw : wv = 0 → wn = 0 := fun h => by rw [← hwn, show wrs = [] from hok.nw h]; rfl
          have HRD := hid hrd
          have HWD := hid hwd
          have HUP := hid hup
          have HOR := hid (And.intro hownR hrn)
          have HOW := hid (And.intro hownW hwn)
          have hgw := lt_of_cell c4
          have hrn6 : rn ≤ 2000 := by have h1 := HLEN.out k hlt; rw [hB] at h1; have h2 : rds.length ≤ 2000 := h1.1; omega
          have hwn6 : wn ≤ 2000 := by have h1 := HLEN.out k hlt; rw [hB] at h1; have h2 : wrs.length ≤ 2000 := h1.2; omega
          have HRN := hid hrn6
          have HWN := hid hwn6
          clear hrn6 hwn6 hrd hwd hup hownR hownW hrn hwn hr hw hok hcw hcell hgl hown hB hk hlt
          by_cases hz : wv = 0
          · have s1 : (wv != 0) = false := by rw [hz]; rfl
            have s2 : (wv == 0) = true := by rw [hz]; rfl
            have s3 : decide (0 < wn) = false := by rw [hnw hz]; rfl
            have s4 : decide ((0 : Int) < (wn : Int)) = false := by rw [hnw hz]; rfl
            clear hz hnc hnw
            go_wp2_with fail
            clear s1 s2 s3 s4
            have e := Blk.new wr #[.int .i64 th, .int .i64 tx, .int .i64 fr, .int .i64 tw, .int .i64 rv, .int .i64 wv, .bool com, .slice rx rn rc, .slice wx wn wc] 33
            have hA := HBR.out.alloc HBR.out.size (.cells #[.int .i64 th, .int .i64 tx, .int .i64 fr, .int .i64 tw, .int .i64 rv, .int .i64 wv, .bool com, .slice rx rn rc, .slice wx wn wc] 33)
            generalize (wr.alloc (.cells #[.int .i64 th, .int .i64 tx, .int .i64 fr, .int .i64 tw, .int .i64 rv, .int .i64 wv, .bool com, .slice rx rn rc, .slice wx wn wc] 33)) = wA at e hA ⊢
            have e5 := e.cell 5 (v := .int .i64 wv) rfl
            have e7 := e.cell 7 (v := .slice rx rn rc) rfl
            have e8 := e.cell 8 (v := .slice wx wn wc) rfl
            have HE7 := hid e7
            have HE8 := hid e8
            have HAA := hid hA
            have hwA := e.lt
            have HWA := hid hwA
            clear e hA c0 c1 c2 c3 c4 c5 c6 c7 c8 hgw
            go_loopw [9] (fun i wr => ∃ j : Nat, j ≤ rn ∧ i = .int .i64 (j : Int) ∧ Hid (Below wA.heap.size wA wr)) (fun i _ => rn - (intOf i).toNat)
            case atStart => exact ⟨0, Nat.zero_le _, rfl, hid (ext_refl _)⟩
            case round =>
              obtain ⟨m, hm, rfl, HBM⟩ := hrel
              by_cases hmk : m < rn
              · have HMK := hid hmk
                have i1 : decide ((m : Int) < (rn : Int)) = true := by rw [decide_eq_true_iff]; omega
                have i2 : (0 : Int) ≤ (m : Int) := by omega
                have i3 : IntKind.i64.wrap ((m : Int) + 1) = (m : Int) + 1 := IntWalk.i64_in _ (by have := HRN.out; omega)
                have i4 : decide (m < rn) = true := by rw [decide_eq_true_iff]; omega
                have i5 : (m : Int) < (rn : Int) := by omega
                obtain ⟨x', c', hx, hcl⟩ := pairs_at HOR.out.1 HOR.out.2 (HAA.out.trans (HBM.out.mono HAA.out.size))
                cases hx
                obtain ⟨gp, rfl, hgp, hcl⟩ := hcl m hmk
                have a0 := (hcl m hmk).1
                obtain ⟨b1, b2⟩ := HRD.out m hmk
                have e7 := later HBM.out HE7.out
                have hwB := Nat.lt_of_lt_of_le HWA.out HBM.out.size
                have dV := later HBM.out (later HAA.out D1.out)
                have hdV := lt_of_cell dV
                generalize (rds.getD m (0, 0)).1 = pv at a0 b1 b2
                have p1 : decide (pv < 0) = false := decide_eq_false (by omega)
                have p2 : decide (V ≤ pv) = false := decide_eq_false (by omega)
                clear b1 b2 hcl hm hmk
                go_wp2_with fail
                go_quiet (fail)
                go_wp2_with fail
                go_roundw
                case rel => exact ⟨m + 1, HMK.out, rfl, hid (HBM.out.trans ((ext_drewN (ext_refl _) _).mono HBM.out.size))⟩
                case measure => exact (by have := HMK.out; dsimp only [intOf]; omega)
              · obtain rfl : m = rn := by omega
                have i1 : decide ((m : Int) < (m : Int)) = false := by rw [decide_eq_false_iff_not]; omega
                have i4 : decide (m < m) = false := by rw [decide_eq_false_iff_not]; omega
                have e7 := later HBM.out HE7.out
                have hwB := Nat.lt_of_lt_of_le HWA.out HBM.out.size
                go_wp2_with fail
                have HBP := HBM
                clear HBM
                go_loopw [10] (fun i wr => ∃ j : Nat, j ≤ wn ∧ i = .int .i64 (j : Int) ∧ Hid (Below wA.heap.size wA wr)) (fun i _ => wn - (intOf i).toNat)
                case atStart => exact ⟨0, Nat.zero_le _, rfl, HBP⟩
                case round =>
                  obtain ⟨m, hm, rfl, HBM⟩ := hrel
                  by_cases hmk : m < wn
                  · have HMK := hid hmk
                    have i1 : decide ((m : Int) < (wn : Int)) = true := by rw [decide_eq_true_iff]; omega
                    have i2 : (0 : Int) ≤ (m : Int) := by omega
                    have i3 : IntKind.i64.wrap ((m : Int) + 1) = (m : Int) + 1 := IntWalk.i64_in _ (by have := HWN.out; omega)
                    have i4 : decide (m < wn) = true := by rw [decide_eq_true_iff]; omega
                    have i5 : (m : Int) < (wn : Int) := by omega
                    obtain ⟨x', c', hx, hcl⟩ := pairs_at HOW.out.1 HOW.out.2 (HAA.out.trans (HBM.out.mono HAA.out.size))
                    cases hx
                    obtain ⟨gp, rfl, hgp, hcl⟩ := hcl m hmk
                    have a0 := (hcl m hmk).1
                    obtain ⟨b1, b2⟩ := HWD.out m hmk
                    have e8 := later HBM.out HE8.out
                    have hwB := Nat.lt_of_lt_of_le HWA.out HBM.out.size
                    have dV := later HBM.out (later HAA.out D1.out)
                    have hdV := lt_of_cell dV
                    by_cases m0 : m = 0
                    · have r0 : decide (0 < m) = false := by rw [m0]; rfl
                      have r1 : decide ((0 : Int) < (m : Int)) = false := by rw [m0]; rfl
                      generalize (wrs.getD m (0, 0)).1 = pv at a0 b1 b2
                      have p1 : decide (pv < 0) = false := decide_eq_false (by omega)
                      have p2 : decide (V ≤ pv) = false := decide_eq_false (by omega)
                      clear b1 b2 hcl hm hmk m0
                      go_wp2_with fail
                      go_quiet (fail)
                      go_wp2_with fail
                      go_roundw
                      case rel => exact ⟨m + 1, HMK.out, rfl, hid (HBM.out.trans ((ext_drewN (ext_refl _) _).mono HBM.out.size))⟩
                      case measure => exact (by have := HMK.out; dsimp only [intOf]; omega)
                    · obtain ⟨q, hq⟩ : ∃ q, m = q + 1 := ⟨m - 1, by omega⟩
                      have r0 : decide (0 < m) = true := by rw [decide_eq_true_iff]; omega
                      have r1 : decide ((0 : Int) < (m : Int)) = true := by rw [decide_eq_true_iff]; omega
                      have r2 : IntKind.i64.wrap ((m : Int) - 1) = (q : Int) := by rw [show (m : Int) - 1 = (q : Int) by omega]; exact IntWalk.i64_in _ (by have := HWN.out; omega)
                      have r3 : decide (q < wn) = true := by rw [decide_eq_true_iff]; omega
                      have r4 : (q : Int) < (wn : Int) := by omega
                      have r5 : (0 : Int) ≤ (q : Int) := by omega
                      have r6 : q < wn := by omega
                      have hu := HUP.out q (by omega)
                      rw [← hq] at hu
                      have a1 := (hcl q r6).1
                      generalize (wrs.getD m (0, 0)).1 = pv at a0 b1 b2 hu
                      generalize (wrs.getD q (0, 0)).1 = pq at a1 hu
                      have p1 : decide (pv < 0) = false := decide_eq_false (by omega)
                      have p2 : decide (V ≤ pv) = false := decide_eq_false (by omega)
                      have p3 : decide (pv ≤ pq) = false := decide_eq_false (by omega)
                      clear b1 b2 hcl hm hmk m0 hu hq
                      go_wp2_with fail
                      go_quiet (fail)
                      go_wp2_with fail
                      go_roundw
                      case rel => exact ⟨m + 1, HMK.out, rfl, hid (HBM.out.trans ((ext_drewN (ext_refl _) _).mono HBM.out.size))⟩
                      case measure => exact (by have := HMK.out; dsimp only [intOf]; omega)
                  · obtain rfl : m = wn := by omega
                    have i1 : decide ((m : Int) < (m : Int)) = false := by rw [decide_eq_false_iff_not]; omega
                    have i4 : decide (m < m) = false := by rw [decide_eq_false_iff_not]; omega
                    have e8 := later HBM.out HE8.out
                    have hwB := Nat.lt_of_lt_of_le HWA.out HBM.out.size
                    go_wp2_with fail
                    go_roundw
                    case rel => exact ⟨k + 1, HLT.out, rfl, hid (HAA.out.trans (HBM.out.mono HAA.out.size))⟩
                    case measure => exact (by have := HLT.out; dsimp only [intOf]; omega)
          · have s1 : (wv != 0) = true := bne_iff_ne.2 hz
            have s2 : (wv == 0) = false := beq_eq_false_iff_ne.2 hz
            have s3 : com = true := by cases com with | false => exact absurd (hnc rfl) hz | true => rfl
            subst s3
            clear hz hnc hnw
            go_wp2_with fail
            clear s1 s2
            have e := Blk.new wr #[.int .i64 th, .int .i64 tx, .int .i64 fr, .int .i64 tw, .int .i64 rv, .int .i64 wv, .bool true, .slice rx rn rc, .slice wx wn wc] 33
            have hA := HBR.out.alloc HBR.out.size (.cells #[.int .i64 th, .int .i64 tx, .int .i64 fr, .int .i64 tw, .int .i64 rv, .int .i64 wv, .bool true, .slice rx rn rc, .slice wx wn wc] 33)
            generalize (wr.alloc (.cells #[.int .i64 th, .int .i64 tx, .int .i64 fr, .int .i64 tw, .int .i64 rv, .int .i64 wv, .bool true, .slice rx rn rc, .slice wx wn wc] 33)) = wA at e hA ⊢
            have e5 := e.cell 5 (v := .int .i64 wv) rfl
            have e7 := e.cell 7 (v := .slice rx rn rc) rfl
            have e8 := e.cell 8 (v := .slice wx wn wc) rfl
            have HE7 := hid e7
            have HE8 := hid e8
            have HAA := hid hA
            have hwA := e.lt
            have HWA := hid hwA
            clear e hA c0 c1 c2 c3 c4 c5 c6 c7 c8 hgw
            go_loopw [9] (fun i wr => ∃ j : Nat, j ≤ rn ∧ i = .int .i64 (j : Int) ∧ Hid (Below wA.heap.size wA wr)) (fun i _ => rn - (intOf i).toNat)
            case atStart => exact ⟨0, Nat.zero_le _, rfl, hid (ext_refl _)⟩
            case round =>
              obtain ⟨m, hm, rfl, HBM⟩ := hrel
              by_cases hmk : m < rn
              · have HMK := hid hmk
                have i1 : decide ((m : Int) < (rn : Int)) = true := by rw [decide_eq_true_iff]; omega
                have i2 : (0 : Int) ≤ (m : Int) := by omega
                have i3 : IntKind.i64.wrap ((m : Int) + 1) = (m : Int) + 1 := IntWalk.i64_in _ (by have := HRN.out; omega)
                have i4 : decide (m < rn) = true := by rw [decide_eq_true_iff]; omega
                have i5 : (m : Int) < (rn : Int) := by omega
                obtain ⟨x', c', hx, hcl⟩ := pairs_at HOR.out.1 HOR.out.2 (HAA.out.trans (HBM.out.mono HAA.out.size))
                cases hx
                obtain ⟨gp, rfl, hgp, hcl⟩ := hcl m hmk
                have a0 := (hcl m hmk).1
                obtain ⟨b1, b2⟩ := HRD.out m hmk
                have e7 := later HBM.out HE7.out
                have hwB := Nat.lt_of_lt_of_le HWA.out HBM.out.size
                have dV := later HBM.out (later HAA.out D1.out)
                have hdV := lt_of_cell dV
                generalize (rds.getD m (0, 0)).1 = pv at a0 b1 b2
                have p1 : decide (pv < 0) = false := decide_eq_false (by omega)
                have p2 : decide (V ≤ pv) = false := decide_eq_false (by omega)
                clear b1 b2 hcl hm hmk
                go_wp2_with fail
                go_quiet (fail)
                go_wp2_with fail
                go_roundw
                case rel => exact ⟨m + 1, HMK.out, rfl, hid (HBM.out.trans ((ext_drewN (ext_refl _) _).mono HBM.out.size))⟩
                case measure => exact (by have := HMK.out; dsimp only [intOf]; omega)
              · obtain rfl : m = rn := by omega
                have i1 : decide ((m : Int) < (m : Int)) = false := by rw [decide_eq_false_iff_not]; omega
                have i4 : decide (m < m) = false := by rw [decide_eq_false_iff_not]; omega
                have e7 := later HBM.out HE7.out
                have hwB := Nat.lt_of_lt_of_le HWA.out HBM.out.size
                go_wp2_with fail
                have HBP := HBM
                clear HBM
                go_loopw [10] (fun i wr => ∃ j : Nat, j ≤ wn ∧ i = .int .i64 (j : Int) ∧ Hid (Below wA.heap.size wA wr)) (fun i _ => wn - (intOf i).toNat)
                case atStart => exact ⟨0, Nat.zero_le _, rfl, HBP⟩
                case round =>
                  obtain ⟨m, hm, rfl, HBM⟩ := hrel
                  by_cases hmk : m < wn
                  · have HMK := hid hmk
                    have i1 : decide ((m : Int) < (wn : Int)) = true := by rw [decide_eq_true_iff]; omega
                    have i2 : (0 : Int) ≤ (m : Int) := by omega
                    have i3 : IntKind.i64.wrap ((m : Int) + 1) = (m : Int) + 1 := IntWalk.i64_in _ (by have := HWN.out; omega)
                    have i4 : decide (m < wn) = true := by rw [decide_eq_true_iff]; omega
                    have i5 : (m : Int) < (wn : Int) := by omega
                    obtain ⟨x', c', hx, hcl⟩ := pairs_at HOW.out.1 HOW.out.2 (HAA.out.trans (HBM.out.mono HAA.out.size))
                    cases hx
                    obtain ⟨gp, rfl, hgp, hcl⟩ := hcl m hmk
                    have a0 := (hcl m hmk).1
                    obtain ⟨b1, b2⟩ := HWD.out m hmk
                    have e8 := later HBM.out HE8.out
                    have hwB := Nat.lt_of_lt_of_le HWA.out HBM.out.size
                    have dV := later HBM.out (later HAA.out D1.out)
                    have hdV := lt_of_cell dV
                    by_cases m0 : m = 0
                    · have r0 : decide (0 < m) = false := by rw [m0]; rfl
                      have r1 : decide ((0 : Int) < (m : Int)) = false := by rw [m0]; rfl
                      generalize (wrs.getD m (0, 0)).1 = pv at a0 b1 b2
                      have p1 : decide (pv < 0) = false := decide_eq_false (by omega)
                      have p2 : decide (V ≤ pv) = false := decide_eq_false (by omega)
                      clear b1 b2 hcl hm hmk m0
                      go_wp2_with fail
                      go_quiet (fail)
                      go_wp2_with fail
                      go_roundw
                      case rel => exact ⟨m + 1, HMK.out, rfl, hid (HBM.out.trans ((ext_drewN (ext_refl _) _).mono HBM.out.size))⟩
                      case measure => exact (by have := HMK.out; dsimp only [intOf]; omega)
                    · obtain ⟨q, hq⟩ : ∃ q, m = q + 1 := ⟨m - 1, by omega⟩
                      have r0 : decide (0 < m) = true := by rw [decide_eq_true_iff]; omega
                      have r1 : decide ((0 : Int) < (m : Int)) = true := by rw [decide_eq_true_iff]; omega
                      have r2 : IntKind.i64.wrap ((m : Int) - 1) = (q : Int) := by rw [show (m : Int) - 1 = (q : Int) by omega]; exact IntWalk.i64_in _ (by have := HWN.out; omega)
                      have r3 : decide (q < wn) = true := by rw [decide_eq_true_iff]; omega
                      have r4 : (q : Int) < (wn : Int) := by omega
                      have r5 : (0 : Int) ≤ (q : Int) := by omega
                      have r6 : q < wn := by omega
                      have hu := HUP.out q (by omega)
                      rw [← hq] at hu
                      have a1 := (hcl q r6).1
                      generalize (wrs.getD m (0, 0)).1 = pv at a0 b1 b2 hu
                      generalize (wrs.getD q (0, 0)).1 = pq at a1 hu
                      have p1 : decide (pv < 0) = false := decide_eq_false (by omega)
                      have p2 : decide (V ≤ pv) = false := decide_eq_false (by omega)
                      have p3 : decide (pv ≤ pq) = false := decide_eq_false (by omega)
                      clear b1 b2 hcl hm hmk m0 hu hq
                      go_wp2_with fail
                      go_quiet (fail)
                      go_wp2_with fail
                      go_roundw
                      case rel => exact ⟨m + 1, HMK.out, rfl, hid (HBM.out.trans ((ext_drewN (ext_refl _) _).mono HBM.out.size))⟩
                      case measure => exact (by have := HMK.out; dsimp only [intOf]; omega)
                  · obtain rfl : m = wn := by omega
                    have i1 : decide ((m : Int) < (m : Int)) = false := by rw [decide_eq_false_iff_not]; omega
                    have i4 : decide (m < m) = false := by rw [decide_eq_false_iff_not]; omega
                    have e8 := later HBM.out HE8.out
                    have hwB := Nat.lt_of_lt_of_le HWA.out HBM.out.size
                    go_wp2_with fail
                    go_roundw
                    case rel => exact ⟨k + 1, HLT.out, rfl, hid (HAA.out.trans (HBM.out.mono HAA.out.size))⟩
                    case measure => exact (by have := HLT.out; dsimp only [intOf]; omega)
        · obtain rfl : k = L.length := by omega
          have j1 : decide ((L.length : Int) < (L.length : Int)) = false := by rw [decide_eq_false_iff_not]; omega
          have j4 : decide (L.length < L.length) = false := by rw [decide_eq_false_iff_not]; omega
          go_wp2_with fail
          go_ret
          exact ⟨rfl, ext_trans HB2.out HBR.out⟩
theorem historyVersions_any (T V S : Int) (a : Option Addr) (l : List Ev) (cap : Nat) (w : World) (hE : EvsAt w a l) (hK : KindsAt w) (hT : TabOk w) :
    Calls Tryd.prog 4 #[trA T V S a l.length cap] w fun e w' => e = .returned (.bool true) ∧ Below w.heap.size w w' := by
  by_cases hl : l.length ≤ 600
  · by_cases hc : (checkT T V S l).2 = 0
    · exact vers_loop T V S a l cap w hl hc hE hK hT
    · exact vers_no T V S a l cap w hl hc hE hK hT
  · exact vers_great T V S a l.length cap w (by omega) hK hT

end Go.Proofs.YtjckgagkkknmnaaDoor
