/-
  Walk: SliceCommitted.
-/
import Derived.Test.YtnmbacleaijhmaaDoorSgF
namespace Go.Proofs.YtnmbacleaijhmaaDoor
set_option linter.unusedVariables false
set_option linter.unusedSimpArgs false
set_option linter.unusedVariables false
open Go Go.RowKit
theorem by_any (T V S : Int) (a : Option Addr) (l : List Ev) (cap : Nat) (vars : List Int) (vv : Value) (w : World) (hl : l.length ≤ 600) (hvl : vars.length ≤ 50) (hV : RdI w vars vv) (hE : EvsAt w a l) (hK : KindsAt w) (hT : TabOk w) :
    Calls Tryd.prog 12 #[trA T V S a l.length cap, vv] w (ByP T V S l vars w) := by
  by_cases hc : (checkT T V S l).2 = 0
  · exact by_yes T V S a l cap vars vv w hc hl hvl hV hE hK hT
  · exact by_no T V S a l cap vars vv w hc hV hE hK hT
set_option maxRecDepth 100000 in
set_option maxHeartbeats 4000000 in
theorem comm_great (T V S : Int) (a : Option Addr) (len cap : Nat) (vars : List Int) (vv : Value) (w : World) (hV : RdI w vars vv) (hl : 600 < len) :
    Calls Tryd.prog 6 #[trA T V S a len cap, vv] w fun e w' => e = .returned (.bool true) ∧ Below w.heap.size w w' := by
  have HW := hid works_any
  have j : decide ((600 : Int) < (len : Int)) = true := by rw [decide_eq_true_iff]; omega
  obtain ⟨av, cv, rfl, -⟩ := hV
  clear hl
  dsimp only [trA]
  have HB : Hid (Below w.heap.size w (w.alloc (.cells #[.int .i64 T, .int .i64 V, .int .i64 S, .slice a len cap] 36))) := hid (ext_alloc (ext_refl _) _)
  have d := (Blk.new w #[.int .i64 T, .int .i64 V, .int .i64 S, .slice a len cap] 36).cell 3 rfl
  go_enter Tryd.func6, Tryd.ntmps6
  go_wp2_with fail
  refine (HW.out _).mono ?_
  rintro e' w1 ⟨rfl, hb1⟩
  have d3 := later hb1 d
  have HB1 := hid (ext_trans HB.out hb1)
  clear hb1 d
  go_wp2_with fail
  refine (HW.out _).mono ?_
  rintro e' w2 ⟨rfl, hb2⟩
  have HB2 := hid (ext_trans HB1.out hb2)
  clear hb2
  go_wp2_with fail
  go_ret
  exact ⟨rfl, HB2.out⟩
set_option maxRecDepth 100000 in
set_option maxHeartbeats 4000000 in
theorem comm_great2 (T V S : Int) (a : Option Addr) (len cap : Nat) (vars : List Int) (vv : Value) (w : World) (hV : RdI w vars vv) (hl : len ≤ 600) (hv : 50 < vars.length) :
    Calls Tryd.prog 6 #[trA T V S a len cap, vv] w fun e w' => e = .returned (.bool true) ∧ Below w.heap.size w w' := by
  have HW := hid works_any
  have j : decide ((600 : Int) < (len : Int)) = false := by rw [decide_eq_false_iff_not]; omega
  have j2 : decide ((50 : Int) < (vars.length : Int)) = true := by rw [decide_eq_true_iff]; omega
  obtain ⟨av, cv, rfl, -⟩ := hV
  clear hl hv
  dsimp only [trA]
  have HB : Hid (Below w.heap.size w (w.alloc (.cells #[.int .i64 T, .int .i64 V, .int .i64 S, .slice a len cap] 36))) := hid (ext_alloc (ext_refl _) _)
  have d := (Blk.new w #[.int .i64 T, .int .i64 V, .int .i64 S, .slice a len cap] 36).cell 3 rfl
  go_enter Tryd.func6, Tryd.ntmps6
  go_wp2_with fail
  refine (HW.out _).mono ?_
  rintro e' w1 ⟨rfl, hb1⟩
  have d3 := later hb1 d
  have HB1 := hid (ext_trans HB.out hb1)
  clear hb1 d
  go_wp2_with fail
  refine (HW.out _).mono ?_
  rintro e' w2 ⟨rfl, hb2⟩
  have HB2 := hid (ext_trans HB1.out hb2)
  clear hb2
  go_wp2_with fail
  go_ret
  exact ⟨rfl, HB2.out⟩
set_option maxRecDepth 100000 in
set_option maxHeartbeats 4000000 in
theorem comm_no (T V S : Int) (a : Option Addr) (l : List Ev) (cap : Nat) (vars : List Int) (vv : Value) (w : World) (hl : l.length ≤ 600) (hv : vars.length ≤ 50) (hc : (checkT T V S l).2 ≠ 0) (hV : RdI w vars vv) (hE : EvsAt w a l) (hK : KindsAt w) (hT : TabOk w) :
    Calls Tryd.prog 6 #[trA T V S a l.length cap, vv] w fun e w' => e = .returned (.bool true) ∧ Below w.heap.size w w' := by
  have HW := hid works_any
  have HC := hid (fun W (hW : Below w.heap.size w W) => of_any T V S a l cap W (hE.below hW) (hK.below hW) (hT.below hW))
  have j : decide ((600 : Int) < (l.length : Int)) = false := by rw [decide_eq_false_iff_not]; omega
  have j2 : decide ((50 : Int) < (vars.length : Int)) = false := by rw [decide_eq_false_iff_not]; omega
  unfold OfP at HC
  obtain ⟨q, hq⟩ : ∃ q, (checkT T V S l).2 = q := ⟨_, rfl⟩
  rw [hq] at HC hc
  have g1 : (q == 0) = false := beq_eq_false_iff_ne.2 hc
  have g2 : (q != 0) = true := bne_iff_ne.2 hc
  obtain ⟨av, cv, rfl, -⟩ := hV
  clear hl hK hT hE hc hq hv
  dsimp only [trA] at HC ⊢
  have HB : Hid (Below w.heap.size w (w.alloc (.cells #[.int .i64 T, .int .i64 V, .int .i64 S, .slice a l.length cap] 36))) := hid (ext_alloc (ext_refl _) _)
  have d := Blk.new w #[.int .i64 T, .int .i64 V, .int .i64 S, .slice a l.length cap] 36
  go_enter Tryd.func6, Tryd.ntmps6
  go_wp2_with fail
  refine (HW.out _).mono ?_
  rintro e' w1 ⟨rfl, hb1⟩
  have d0 := later hb1 (d.cell 0 rfl)
  have d1 := later hb1 (d.cell 1 rfl)
  have d2 := later hb1 (d.cell 2 rfl)
  have d3 := later hb1 (d.cell 3 rfl)
  have HB1 := hid (ext_trans HB.out hb1)
  clear hb1 d
  go_wp2_with fail
  refine (HC.out _ HB1.out).mono ?_
  rintro e' w2 ⟨vo, rfl, hb2, hat⟩
  have HB2 := hid (ext_trans HB1.out hb2)
  clear hb2 hat
  go_wp2_with fail
  go_ret
  exact ⟨rfl, HB2.out⟩
def endK (L : List Att) (k : Nat) : Bool := (L.take k).all fun a => a.wv == 0 || a.to_ != -1
theorem endK_step (L : List Att) (k : Nat) (h : k < L.length) : endK L (k + 1) = (endK L k && (L[k].wv == 0 || L[k].to_ != -1)) := by
  unfold endK
  rw [List.take_succ_eq_append_getElem h, List.all_append]
  simp
theorem endK_all {L : List Att} (h : endK L L.length = true) : ∀ a ∈ L, a.wv = 0 ∨ a.to_ ≠ -1 := by
  intro a ha
  unfold endK at h
  rw [List.take_length, List.all_eq_true] at h
  have := h a ha
  simpa using this
theorem byCode_two {T V S : Int} {l : List Ev} {vars : List Int} (hc : (checkT T V S l).2 = 0) : byCode T V S l vars = 0 ∨ byCode T V S l vars = 1 := by
  unfold byCode
  rw [hc, if_neg (by decide)]
  split
  · exact .inr rfl
  · exact .inl rfl
theorem byCode_none {T V S : Int} {l : List Ev} (hc : (checkT T V S l).2 = 0) : byCode T V S l [] = 0 := by
  unfold byCode
  rw [hc, if_neg (by decide)]
  rfl
theorem byEvs_kinds {T V S : Int} {l : List Ev} {s : Sh} (h : Hist T V S l s) {vars : List Int} : ∀ e ∈ byEvs T V S l vars, e.kind ≠ 13 ∧ e.kind ≠ 10 ∧ e.kind ≠ 12 := by
  intro e he
  unfold byEvs at he
  split at he
  · exact byF_kinds h he
  · cases he
theorem byEvs_ok {T V S : Int} {l : List Ev} {vars : List Int} (h : ∀ e ∈ l, EvOk e) : ∀ e ∈ byEvs T V S l vars, EvOk e := by
  intro e he
  unfold byEvs at he
  split at he
  · exact byF_ok h e he
  · cases he
theorem byEvs_none {T V S : Int} {l : List Ev} {s : Sh} (hs : Hist T V S l s) (h : endK (histT l).out (histT l).out.length = true) : byEvs T V S l [] = [] := by
  unfold byEvs
  split
  · rw [kept_none (endK_all h) (fun a ha => by
      obtain ⟨k, hk, rfl⟩ := List.mem_iff_getElem.1 ha
      exact (hs.hi.att k _ (List.getElem?_eq_getElem hk)).wv.1)]
    exact byF_nil l l.length
  · rfl
set_option maxRecDepth 100000 in
set_option maxHeartbeats 8000000 in
theorem comm_ok (T V S : Int) (a : Option Addr) (l : List Ev) (cap : Nat) (vars : List Int) (vv : Value) (w : World) (hl : l.length ≤ 600) (hv : vars.length ≤ 50) (hc : (checkT T V S l).2 = 0) (hV : RdI w vars vv) (hE : EvsAt w a l) (hK : KindsAt w) (hT : TabOk w) :
    Calls Tryd.prog 6 #[trA T V S a l.length cap, vv] w fun e w' => e = .returned (.bool true) ∧ Below w.heap.size w w' := by
  have HW := hid works_any
  have HC := hid (fun W (hW : Below w.heap.size w W) => of_any T V S a l cap W (hE.below hW) (hK.below hW) (hT.below hW))
  have HBY := hid (fun W (hW : Below w.heap.size w W) => by_any T V S a l cap vars vv W hl hv (hV.below hW) (hE.below hW) (hK.below hW) (hT.below hW))
  have HBN := hid (fun W (hW : Below w.heap.size w W) => by_any T V S a l cap [] (.slice none 0 0) W hl (by simp) (rdI_none W) (hE.below hW) (hK.below hW) (hT.below hW))
  have j : decide ((600 : Int) < (l.length : Int)) = false := by rw [decide_eq_false_iff_not]; omega
  have j2 : decide ((50 : Int) < (vars.length : Int)) = false := by rw [decide_eq_false_iff_not]; omega
  obtain ⟨hz, -, s, hs⟩ := checkT_fine hc
  unfold OfP at HC
  simp only [hc, if_true] at HC
  unfold ByP at HBY HBN
  have hbig := big_tr hl hv
  obtain ⟨hs1, hs2⟩ := hist_small (l := l)
  have hN := attN_all hE.1 (by omega)
  have HRD := hid (fun (W : World) (n₀ : Nat) (v : Value) (h : AttsAt W n₀ v (histT l).out) => h.rd hN (by omega) (fun q hq => by have := hs2 q hq; omega))
  have HKP := hid (fun w' vl vv h1 h2 => kept_any (histT l).out vars w' vl vv h1 h2 hbig (by omega))
  have HKC := hid (fun (i : Nat) (h : i ∈ keptL (histT l).out vars) => kept_com hs h)
  have hkl : (keptL (histT l).out vars).length ≤ 600 := by have := keptH_len (L := (histT l).out) (vars := vars); omega
  have HKI := hid (byEvs_kinds hs (vars := vars))
  have HOK := hid (byEvs_ok (T := T) (V := V) (S := S) (vars := vars) hE.1)
  have HNO := hid (fun h => byEvs_none hs h)
  have hlB : (byEvs T V S l vars).length ≤ 600 := by unfold byEvs; split; exact Nat.le_trans (byF_len l _ _) hl; simp
  have hc1 := byCode_two (T := T) (V := V) (S := S) (vars := vars) hc
  rw [byCode_none hc] at HBN
  generalize byCode T V S l vars = cd at *
  generalize byEvs T V S l vars = ES at *
  generalize byEvs T V S l [] = EN at *
  generalize keptL (histT l).out vars = K at *
  generalize (histT l).out = L at *
  have HV := hid hV
  have HKL := hid hkl
  have HLB := hid hlB
  have HS1 : Hid (L.length ≤ 600) := hid (by omega)
  obtain ⟨av, cv, rfl, -⟩ := hV
  clear hl hK hT hE hc hv hz hs hbig hs1 hs2 hN hkl hlB
  dsimp only [trA] at HC HBY HBN ⊢
  have HB : Hid (Below w.heap.size w (w.alloc (.cells #[.int .i64 T, .int .i64 V, .int .i64 S, .slice a l.length cap] 36))) := hid (ext_alloc (ext_refl _) _)
  have HD := hid (Blk.new w #[.int .i64 T, .int .i64 V, .int .i64 S, .slice a l.length cap] 36)
  go_enter Tryd.func6, Tryd.ntmps6
  go_wp2_with fail
  refine (HW.out _).mono ?_
  rintro e' w1 ⟨rfl, hb1⟩
  have HD1 := hid (HD.out.below hb1)
  have d0 := HD1.out.cell 0 (v := .int .i64 T) rfl
  have d1 := HD1.out.cell 1 (v := .int .i64 V) rfl
  have d2 := HD1.out.cell 2 (v := .int .i64 S) rfl
  have d3 := HD1.out.cell 3 (v := .slice a l.length cap) rfl
  have HB1 := hid (ext_trans HB.out hb1)
  clear hb1 HD HB
  go_wp2_with fail
  refine (HC.out _ HB1.out).mono ?_
  rintro e' w2 ⟨vo, rfl, hb2, hat⟩
  have HD2 := hid (HD1.out.below hb2)
  have hrd := HRD.out _ _ _ hat
  have HRA := hid hrd
  have HB2 := hid (ext_trans HB1.out hb2)
  obtain ⟨oa, oc, rfl, -, hx⟩ := hrd
  have HX := hid hx
  clear hb2 hat HB1 HD1 d0 d1 d2 d3 hx HC
  go_wp2_with fail
  go_loopw [7, 8] (fun p i wr => ∃ k : Nat, k ≤ L.length ∧ i = .int .i64 (k : Int) ∧ p = .bool (endK L k) ∧ Hid (Below w2.heap.size w2 wr)) (fun p i _ => L.length - (intOf i).toNat)
  case atStart => exact ⟨0, Nat.zero_le _, rfl, rfl, hid (ext_refl _)⟩
  case round =>
    obtain ⟨k, hk, rfl, rfl, HBW⟩ := hrel
    by_cases hlt : k < L.length
    · obtain ⟨b, o, rfl, hcell⟩ := HX.out (by intro h; rw [h] at hlt; simp at hlt)
      obtain ⟨r, u, hcc⟩ := hcell k hlt
      have c3 := later HBW.out hcc.c3
      have c5 := later HBW.out hcc.c5
      have hbl := lt_of_cell c3
      have j1 : decide ((k : Int) < (L.length : Int)) = true := by rw [decide_eq_true_iff]; omega
      have j3 : (0 : Int) ≤ (k : Int) := by omega
      have j4 : IntKind.i64.wrap ((k : Int) + 1) = ((k + 1 : Nat) : Int) := by have := HS1.out; rw [IntWalk.i64_in _ (by omega)]; omega
      have HST := hid (endK_step L k hlt)
      have HLT := hid hlt
      clear hcc hcell
      generalize endK L k = q at *
      generalize L[k].wv = wv at *
      generalize L[k].to_ = to_ at *
      cases q
      case false =>
        go_wp2_with fail
        go_roundw
        case rel => exact ⟨k + 1, HLT.out, by go_num, by rw [HST.out]; rfl, HBW⟩
        case measure => have := HLT.out; simp [intOf]; omega
      case true =>
        by_cases h5 : wv = 0
        · have g5 : (wv == 0) = true := by rw [h5]; rfl
          have HG := hid g5
          clear h5
          go_wp2_with fail
          go_roundw
          case rel => exact ⟨k + 1, HLT.out, by go_num, by rw [HST.out, HG.out]; rfl, HBW⟩
          case measure => have := HLT.out; simp [intOf]; omega
        · have g5 : (wv == 0) = false := beq_eq_false_iff_ne.2 h5
          have HG := hid g5
          clear h5
          obtain ⟨q3, hq3⟩ : ∃ q3, (to_ != -1) = q3 := ⟨_, rfl⟩
          have hq3' : (to_ == -1) = !q3 := by rw [← hq3]; simp [bne]
          have HQ3 := hid hq3
          cases q3 <;> simp only [Bool.not_false, Bool.not_true] at hq3'
          all_goals
            go_wp2_with fail
            go_roundw
            case rel => exact ⟨k + 1, HLT.out, by go_num, by rw [HST.out, HG.out, HQ3.out]; rfl, HBW⟩
            case measure => have := HLT.out; simp [intOf]; omega
    · obtain rfl : k = L.length := by omega
      have j1 : decide ((L.length : Int) < (L.length : Int)) = false := by rw [decide_eq_false_iff_not]; omega
      obtain ⟨qe, hqe⟩ : ∃ qe, endK L L.length = qe := ⟨_, rfl⟩
      rw [hqe] at HNO ⊢
      clear hqe
      have HB3 := hid (ext_trans HB2.out HBW.out)
      have HRA3 := hid (HRA.out.below HBW.out)
      have HD3 := hid (HD2.out.below HBW.out)
      clear HB2 HD2
      go_wp2_with fail
      refine (HKP.out _ _ _ HRA3.out (HV.out.below HB3.out)).mono ?_
      rintro e' w4 ⟨vk, rfl, hok, hb4⟩
      obtain ⟨ka, kc, rfl⟩ := own_sl' hok
      have HRK := hid (rdNats_of_own hok)
      have HB4 := hid (ext_trans HB3.out hb4)
      have HBX4 := hid (ext_trans HBW.out hb4)
      have HD4 := hid (HD3.out.below hb4)
      clear hok hb4 HB3 HD3 HRA3
      go_wp2_with fail
      go_loopw [10] (fun i wz => ∃ k : Nat, k ≤ K.length ∧ i = .int .i64 (k : Int) ∧ Hid (Below w4.heap.size w4 wz)) (fun i _ => K.length - (intOf i).toNat)
      case atStart => exact ⟨0, Nat.zero_le _, rfl, hid (ext_refl _)⟩
      case round =>
        obtain ⟨k, hk, rfl, HBZ⟩ := hrel
        by_cases hlt : k < K.length
        · obtain ⟨a1, cap1, hva, hr1⟩ := HRK.out
          obtain ⟨b, o, hb0, hr2⟩ := hr1 (by intro h; rw [h] at hlt; simp at hlt)
          cases hva
          subst hb0
          obtain ⟨hkk, hcom⟩ := HKC.out K[k] (List.getElem_mem hlt)
          obtain ⟨b2, o2, rfl, hcell⟩ := HX.out (by intro h; rw [h] at hkk; simp at hkk)
          obtain ⟨r, u, hcc⟩ := hcell K[k] hkk
          have k0 := later HBZ.out (hr2 k hlt)
          have c6 := later (ext_trans HBX4.out HBZ.out) hcc.c6
          have e6 : L[K[k]].com = true := by rw [List.getD_eq_getElem?_getD, List.getElem?_eq_getElem hkk] at hcom; exact hcom
          rw [e6] at c6
          have hbl := lt_of_cell k0
          have hbl2 := lt_of_cell c6
          have j1 : decide ((k : Int) < (K.length : Int)) = true := by rw [decide_eq_true_iff]; omega
          have j3 : (0 : Int) ≤ (k : Int) := by omega
          have j4 : IntKind.i64.wrap ((k : Int) + 1) = ((k + 1 : Nat) : Int) := by have := HKL.out; rw [IntWalk.i64_in _ (by omega)]; omega
          have HLT := hid hlt
          clear hcc hcell hr1 hr2 hcom e6
          generalize K[k] = m at *
          have j5 : decide ((m : Int) < 0) = false := by rw [decide_eq_false_iff_not]; omega
          have j6 : decide ((L.length : Int) ≤ (m : Int)) = false := by rw [decide_eq_false_iff_not]; omega
          have j7 : (0 : Int) ≤ (m : Int) := by omega
          have j8 : decide ((m : Int) < (L.length : Int)) = true := by rw [decide_eq_true_iff]; omega
          go_wp2_with fail
          go_roundw
          case rel => exact ⟨k + 1, HLT.out, by go_num, HBZ⟩
          case measure => have := HLT.out; simp [intOf]; omega
        · obtain rfl : k = K.length := by omega
          have j1 : decide ((K.length : Int) < (K.length : Int)) = false := by rw [decide_eq_false_iff_not]; omega
          have HB5 := hid (ext_trans HB4.out HBZ.out)
          have hd5 := HD4.out.below HBZ.out
          have HD5 := hid hd5
          have d0 := hd5.cell 0 (v := .int .i64 T) rfl
          have d1 := hd5.cell 1 (v := .int .i64 V) rfl
          have d2 := hd5.cell 2 (v := .int .i64 S) rfl
          have d3 := hd5.cell 3 (v := .slice a l.length cap) rfl
          clear hd5 HD4 HB4
          go_wp2_with fail
          refine (HBY.out _ HB5.out).mono ?_
          rintro e' w6 ⟨T', V', S', v6, rfl, hb6, ho6, -⟩
          obtain ⟨ea, ec, rfl, hev⟩ := evs_of_own ho6 HOK.out
          have HD6 := hid (HD5.out.below hb6)
          have HB6 := hid (ext_trans HB5.out hb6)
          have HEV := hid hev
          clear hb6 ho6 hev d0 d1 d2 d3 HB5 HD5
          go_wp2_with fail
          have HN6 := hid (Blk.new w6 #[.int .i64 T', .int .i64 V', .int .i64 S', .slice ea ES.length ec] 36)
          have HA6 := hid (ext_alloc (ext_refl w6) (.cells #[.int .i64 T', .int .i64 V', .int .i64 S', .slice ea ES.length ec] 36))
          obtain ⟨w7, hw7⟩ : ∃ w7, w7 = w6.alloc (.cells #[.int .i64 T', .int .i64 V', .int .i64 S', .slice ea ES.length ec] 36) := ⟨_, rfl⟩
          rw [← hw7] at HN6 HA6 ⊢
          have HEV7 := hid (HEV.out.below HA6.out)
          have HD7 := hid (HD6.out.below HA6.out)
          have HB7 := hid (ext_trans HB6.out HA6.out)
          clear hw7 HEV HD6 HB6 HA6
          go_loopw [13] (fun i wy => ∃ k : Nat, k ≤ ES.length ∧ i = .int .i64 (k : Int) ∧ Hid (Below w7.heap.size w7 wy)) (fun i _ => ES.length - (intOf i).toNat)
          case atStart => exact ⟨0, Nat.zero_le _, rfl, hid (ext_refl _)⟩
          case round =>
            obtain ⟨k, hk, rfl, HBY7⟩ := hrel
            have hn7 := HN6.out.below HBY7.out
            have n3 := hn7.cell 3 (v := .slice ea ES.length ec) rfl
            by_cases hlt : k < ES.length
            · obtain ⟨b, o, rfl, hcell⟩ := HEV7.out.2 (by intro h; rw [h] at hlt; simp at hlt)
              have k0 := later HBY7.out (hcell k hlt 0 (.int .u8 ES[k].kind) rfl)
              rw [Nat.add_zero] at k0
              have hbl := lt_of_cell k0
              obtain ⟨f1, f2, f3⟩ := HKI.out ES[k] (List.getElem_mem hlt)
              have g1 : (ES[k].kind == 13) = false := beq_eq_false_iff_ne.2 f1
              have g2 : (ES[k].kind == 10) = false := beq_eq_false_iff_ne.2 f2
              have g3 : (ES[k].kind == 12) = false := beq_eq_false_iff_ne.2 f3
              have j1 : decide ((k : Int) < (ES.length : Int)) = true := by rw [decide_eq_true_iff]; omega
              have j3 : (0 : Int) ≤ (k : Int) := by omega
              have j4 : IntKind.i64.wrap ((k : Int) + 1) = ((k + 1 : Nat) : Int) := by have := HLB.out; rw [IntWalk.i64_in _ (by omega)]; omega
              have HLT := hid hlt
              clear hcell hn7 f1 f2 f3
              generalize ES[k].kind = kd at *
              go_wp2_with fail
              go_roundw
              case rel => exact ⟨k + 1, HLT.out, by go_num, HBY7⟩
              case measure => have := HLT.out; simp [intOf]; omega
            · obtain rfl : k = ES.length := by omega
              have j1 : decide ((ES.length : Int) < (ES.length : Int)) = false := by rw [decide_eq_false_iff_not]; omega
              have hd8 := HD7.out.below HBY7.out
              have d0 := hd8.cell 0 (v := .int .i64 T) rfl
              have d1 := hd8.cell 1 (v := .int .i64 V) rfl
              have d2 := hd8.cell 2 (v := .int .i64 S) rfl
              have d3 := hd8.cell 3 (v := .slice a l.length cap) rfl
              have HB8 := hid (ext_trans HB7.out HBY7.out)
              clear hd8 hn7
              go_wp2_with fail
              refine (HBN.out _ HB8.out).mono ?_
              rintro e' w9 ⟨T2, V2, S2, v9, rfl, hb9, ho9, -⟩
              obtain ⟨na, nc, rfl⟩ := own_sl' ho9
              have HB9 := hid (ext_alloc (ext_trans HB8.out hb9) (.cells #[.int .i64 T2, .int .i64 V2, .int .i64 S2, .slice na EN.length nc] 36))
              have m3 := (Blk.new w9 #[.int .i64 T2, .int .i64 V2, .int .i64 S2, .slice na EN.length nc] 36).cell 3 (v := .slice na EN.length nc) rfl
              clear hb9 ho9 d0 d1 d2 d3
              cases qe
              case false =>
                rcases hc1 with rfl | rfl
                all_goals
                  go_wp2_with fail
                  go_ret
                  exact ⟨rfl, HB9.out⟩
              case true =>
                obtain rfl := HNO.out rfl
                have g0 : (((([] : List Ev).length : Nat) : Int) == 0) = true := rfl
                rcases hc1 with rfl | rfl
                all_goals
                  go_wp2_with fail
                  go_ret
                  exact ⟨rfl, HB9.out⟩
theorem sliceCommitted_any (T V S : Int) (a : Option Addr) (l : List Ev) (cap : Nat) (vars : List Int) (vv : Value) (w : World) (hV : RdI w vars vv) (hE : EvsAt w a l) (hK : KindsAt w) (hT : TabOk w) :
    Calls Tryd.prog 6 #[trA T V S a l.length cap, vv] w fun e w' => e = .returned (.bool true) ∧ Below w.heap.size w w' := by
  by_cases hl : 600 < l.length
  · exact comm_great T V S a l.length cap vars vv w hV hl
  · by_cases hv : 50 < vars.length
    · exact comm_great2 T V S a l.length cap vars vv w hV (by omega) hv
    · by_cases hc : (checkT T V S l).2 = 0
      · exact comm_ok T V S a l cap vars vv w (by omega) (by omega) hc hV hE hK hT
      · exact comm_no T V S a l cap vars vv w (by omega) (by omega) hc hV hE hK hT
end Go.Proofs.YtnmbacleaijhmaaDoor
