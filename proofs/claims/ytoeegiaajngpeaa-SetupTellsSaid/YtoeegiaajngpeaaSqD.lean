/-
  Ints and Same of setups by the document, walked (printed by tools/gen_sqd.py).
-/
import Derived.Test.YtoeegiaajngpeaaSqB
import Derived.Test.YtoeegiaajngpeaaSaB
namespace Go.Proofs.Ytoeegiaajngpeaa
set_option linter.unusedVariables false
set_option linter.unusedSimpArgs false
set_option linter.unusedVariables false
open Go Go.RowKit
set_option maxRecDepth 100000 in
set_option maxHeartbeats 4000000 in
theorem rints_any (l l' : List Int) (w : World) (a a' : Option Addr) (cap cap' : Nat) (hr : RdInts w l (.slice a l.length cap)) (hr' : RdInts w l' (.slice a' l'.length cap')) : ∀ r, (l = l' ↔ r = true) →
    Calls Try.prog 37 #[.slice a l.length cap, .slice a' l'.length cap'] w fun e' w' => e' = .returned (.bool r) ∧ Below w.heap.size w w' := by
  intro r hr0
  have hlen : l.length ≤ 9223372036854775807 := by obtain ⟨_, _, _, h, _⟩ := hr; exact h
  have HX := hid hr
  have HX' := hid hr'
  clear hr hr'
  by_cases hll : l.length = l'.length
  · have HR := hid hr0; clear hr0
    rw [← hll]
    have HLL := hid hll; clear hll
    go_enter Try.func37, Try.ntmps37
    go_wp2_with fail
    go_loopw [5] (fun i wr => ∃ k : Nat, k ≤ l.length ∧ i = .int .i64 k ∧ Hid (l.take k = l'.take k) ∧ Below w.heap.size w wr) (fun i _ => l.length - (intOf i).toNat)
    case atStart => exact ⟨0, Nat.zero_le _, rfl, rfl, ext_refl _⟩
    case round =>
      obtain ⟨k, hk, rfl, HF, hb⟩ := hrel
      by_cases hlt : k < l.length
      · have hlt' : k < l'.length := by have := HLL.out; omega
        obtain ⟨b, off, rfl, hrd⟩ := HX.out.get (by intro h; subst h; simp at hlt)
        obtain ⟨b', off', rfl, hrd'⟩ := HX'.out.get (by intro h; subst h; simp at hlt')
        have c0 := later hb (hrd k hlt)
        have d0 := later hb (hrd' k hlt')
        have lc := lt_of_cell c0
        have ld := lt_of_cell d0
        have j1 : decide ((k : Int) < (l.length : Int)) = true := by rw [decide_eq_true_iff]; omega
        have j1n : decide (k < l.length) = true := decide_eq_true hlt
        have j2 : (0 : Int) ≤ (k : Int) := by omega
        have j3 : IntKind.i64.wrap ((k : Int) + 1) = (k : Int) + 1 := IntWalk.i64_in _ (by omega)
        have j2n : (k : Int) < (l.length : Int) := by omega
        clear hrd hrd'
        by_cases heq : l[k] = l'[k]
        · have HQ := hid (take_eq_succ_any hlt hlt' HF.out heq)
          have hbq : (l[k] == l'[k]) = true := by rw [beq_iff_eq]; exact heq
          go_wp2_with fail
          go_quiet (fail)
          go_wp2_with fail
          go_roundw
          case rel => exact ⟨k + 1, hlt, by go_num, HQ, ext_drewN hb _⟩
          case measure => simp [intOf]; omega
        · have HN := hid (show r = false by cases r; rfl; exact absurd (by have := HR.out.2 rfl; subst this; rfl) heq)
          have hbq : (l[k] == l'[k]) = false := by rw [beq_eq_false_iff_ne]; exact heq
          go_wp2_with fail
          go_quiet (fail)
          go_wp2_with fail
          go_ret
          exact ⟨ret_bool HN.out.symm, ext_drewN hb _⟩
      · obtain rfl : k = l.length := by omega
        go_wp2_with fail
        go_ret
        exact ⟨ret_bool (HR.out.1 (by have := HF.out; rw [List.take_length, HLL.out, List.take_length] at this; exact this)).symm, hb⟩
  · have HN := hid (show r = false by cases r; rfl; exact absurd (congrArg List.length (hr0.2 rfl)) hll)
    have hq : ((l.length : Int) == (l'.length : Int)) = false := by rw [beq_eq_false_iff_ne]; omega
    clear hr0
    go_enter Try.func37, Try.ntmps37
    go_wp2_with fail
    go_ret
    exact ⟨ret_bool HN.out.symm, ext_refl _⟩
set_option maxRecDepth 100000 in
set_option maxHeartbeats 4000000 in
theorem rususame_any (st ck tr st' ck' tr' : Int) (is is' : List Int) (ths ths' : List (List (List St))) (vi vi' v v' : Value) (w : World) (hi : RdInts w is vi) (hi' : RdInts w is' vi') (hr : RdThs w ths v) (hr' : RdThs w ths' v') (r : Bool)
    (hrr : (st = st' ∧ ck = ck' ∧ tr = tr' ∧ is = is' ∧ ths = ths') ↔ r = true) :
    Calls Try.prog 14 #[.agg #[.int .i64 st, .int .i64 ck, .int .i64 tr, vi, v], .agg #[.int .i64 st', .int .i64 ck', .int .i64 tr', vi', v']] w fun e' w' => e' = .returned (.bool r) ∧ Below w.heap.size w w' := by
  have HIS := hid hi
  have HIS' := hid hi'
  obtain ⟨pi, ci, rfl, -, -⟩ := hi
  obtain ⟨pi', ci', rfl, -, -⟩ := hi'
  obtain ⟨a, cap, rfl, hlen, hx⟩ := hr
  obtain ⟨a', cap', rfl, hlen', hx'⟩ := hr'
  have HX := hid hx
  have HX' := hid hx'
  have HRR := hid hrr
  obtain ⟨W1, hW1⟩ : ∃ W1, W1 = (w.alloc (.cells #[.int .i64 st, .int .i64 ck, .int .i64 tr, .slice pi is.length ci, .slice a ths.length cap] 25)).alloc (.cells #[.int .i64 st', .int .i64 ck', .int .i64 tr', .slice pi' is'.length ci', .slice a' ths'.length cap'] 25) := ⟨_, rfl⟩
  have hbw : Below w.heap.size w W1 := by rw [hW1]; exact ext_alloc (ext_alloc (ext_refl _) _) _
  have hx0 : Blk W1 w.heap.size #[.int .i64 st, .int .i64 ck, .int .i64 tr, .slice pi is.length ci, .slice a ths.length cap] 25 := by rw [hW1]; exact (Blk.new _ _ _).alloc _
  have hx1 : Blk W1 (w.heap.size + 1) #[.int .i64 st', .int .i64 ck', .int .i64 tr', .slice pi' is'.length ci', .slice a' ths'.length cap'] 25 := by rw [hW1]; exact Blk.new' _ _ _ (by simp)
  have HIA := hid (fun (W : World) (h : Below w.heap.size w W) => rints_any is is' W pi pi' ci ci' (HIS.out.below h) (HIS'.out.below h))
  have HW1 := hid hW1
  have HB1 := hid hbw
  have HX0 := hid hx0
  have HX1 := hid hx1
  clear hrr hW1 hbw hx0 hx1 hx hx'
  by_cases h0 : st = st'
  case neg =>
    obtain rfl : r = false := by
      cases r with
      | false => rfl
      | true => exact absurd (HRR.out.2 rfl).1 h0
    have b0 : (st == st') = false := by rw [beq_eq_false_iff_ne]; exact h0
    have n0 : (st != st') = true := by unfold bne; rw [b0]; rfl
    clear h0 HIA HRR
    go_enter Try.func14, Try.ntmps14
    go_wp2_with fail
    go_ret
    exact ⟨rfl, by rw [← HW1.out]; exact HB1.out⟩
  by_cases h1 : ck = ck'
  case neg =>
    obtain rfl : r = false := by
      cases r with
      | false => rfl
      | true => exact absurd (HRR.out.2 rfl).2.1 h1
    have b0 : (st == st') = true := by rw [beq_iff_eq]; exact h0
    have n0 : (st != st') = false := by unfold bne; rw [b0]; rfl
    have b1 : (ck == ck') = false := by rw [beq_eq_false_iff_ne]; exact h1
    have n1 : (ck != ck') = true := by unfold bne; rw [b1]; rfl
    clear h0 h1 HIA HRR
    go_enter Try.func14, Try.ntmps14
    go_wp2_with fail
    go_ret
    exact ⟨rfl, by rw [← HW1.out]; exact HB1.out⟩
  by_cases h2 : tr = tr'
  case neg =>
    obtain rfl : r = false := by
      cases r with
      | false => rfl
      | true => exact absurd (HRR.out.2 rfl).2.2.1 h2
    have b0 : (st == st') = true := by rw [beq_iff_eq]; exact h0
    have n0 : (st != st') = false := by unfold bne; rw [b0]; rfl
    have b1 : (ck == ck') = true := by rw [beq_iff_eq]; exact h1
    have n1 : (ck != ck') = false := by unfold bne; rw [b1]; rfl
    have b2 : (tr == tr') = false := by rw [beq_eq_false_iff_ne]; exact h2
    have n2 : (tr != tr') = true := by unfold bne; rw [b2]; rfl
    clear h0 h1 h2 HIA HRR
    go_enter Try.func14, Try.ntmps14
    go_wp2_with fail
    go_ret
    exact ⟨rfl, by rw [← HW1.out]; exact HB1.out⟩
  by_cases h3 : is = is'
  case neg =>
    obtain rfl : r = false := by
      cases r with
      | false => rfl
      | true => exact absurd (HRR.out.2 rfl).2.2.2.1 h3
    have b0 : (st == st') = true := by rw [beq_iff_eq]; exact h0
    have n0 : (st != st') = false := by unfold bne; rw [b0]; rfl
    have b1 : (ck == ck') = true := by rw [beq_iff_eq]; exact h1
    have n1 : (ck != ck') = false := by unfold bne; rw [b1]; rfl
    have b2 : (tr == tr') = true := by rw [beq_iff_eq]; exact h2
    have n2 : (tr != tr') = false := by unfold bne; rw [b2]; rfl
    have HC0 := hid (fun W h => HIA.out W h false (by simp [h3]))
    clear h0 h1 h2 h3 HIA HRR
    go_enter Try.func14, Try.ntmps14
    go_wp2_with fail
    rw [← HW1.out]
    refine (HC0.out _ HB1.out).mono ?_
    rintro e w2 ⟨rfl, hb2⟩
    have HX0 := hid (HX0.out.below hb2)
    have HX1 := hid (HX1.out.below hb2)
    have HB1 := hid (ext_trans HB1.out hb2)
    clear hb2
    have c4 := HX0.out.cell 4 (v := .slice a ths.length cap) rfl
    have d4 := HX1.out.cell 4 (v := .slice a' ths'.length cap') rfl
    have lc := HX0.out.lt
    have ld := HX1.out.lt
    go_wp2_with fail
    go_ret
    exact ⟨rfl, HB1.out⟩
  by_cases h4 : ths.length = ths'.length
  case neg =>
    obtain rfl : r = false := by
      cases r with
      | false => rfl
      | true => exact absurd (congrArg List.length (HRR.out.2 rfl).2.2.2.2) h4
    have b0 : (st == st') = true := by rw [beq_iff_eq]; exact h0
    have n0 : (st != st') = false := by unfold bne; rw [b0]; rfl
    have b1 : (ck == ck') = true := by rw [beq_iff_eq]; exact h1
    have n1 : (ck != ck') = false := by unfold bne; rw [b1]; rfl
    have b2 : (tr == tr') = true := by rw [beq_iff_eq]; exact h2
    have n2 : (tr != tr') = false := by unfold bne; rw [b2]; rfl
    have HC0 := hid (fun W h => HIA.out W h true (by simp [h3]))
    have hq : ((ths.length : Int) == (ths'.length : Int)) = false := by rw [beq_eq_false_iff_ne]; omega
    have hqn : ((ths.length : Int) != (ths'.length : Int)) = true := by unfold bne; rw [hq]; rfl
    clear h0 h1 h2 h3 h4 HIA HRR
    go_enter Try.func14, Try.ntmps14
    go_wp2_with fail
    rw [← HW1.out]
    refine (HC0.out _ HB1.out).mono ?_
    rintro e w2 ⟨rfl, hb2⟩
    have HX0 := hid (HX0.out.below hb2)
    have HX1 := hid (HX1.out.below hb2)
    have HB1 := hid (ext_trans HB1.out hb2)
    clear hb2
    have c4 := HX0.out.cell 4 (v := .slice a ths.length cap) rfl
    have d4 := HX1.out.cell 4 (v := .slice a' ths'.length cap') rfl
    have lc := HX0.out.lt
    have ld := HX1.out.lt
    go_wp2_with fail
    go_ret
    exact ⟨rfl, HB1.out⟩
  have HLL := hid h4
  have HRT : Hid (ths = ths' ↔ r = true) := hid (by have := HRR.out; rw [← this]; exact ⟨fun h => ⟨h0, h1, h2, h3, h⟩, fun h => h.2.2.2.2⟩)
  have b0 : (st == st') = true := by rw [beq_iff_eq]; exact h0
  have n0 : (st != st') = false := by unfold bne; rw [b0]; rfl
  have b1 : (ck == ck') = true := by rw [beq_iff_eq]; exact h1
  have n1 : (ck != ck') = false := by unfold bne; rw [b1]; rfl
  have b2 : (tr == tr') = true := by rw [beq_iff_eq]; exact h2
  have n2 : (tr != tr') = false := by unfold bne; rw [b2]; rfl
  have HC0 := hid (fun W h => HIA.out W h true (by simp [h3]))
  have hq : ((ths.length : Int) == (ths'.length : Int)) = true := by rw [beq_iff_eq]; omega
  have hqn : ((ths.length : Int) != (ths'.length : Int)) = false := by unfold bne; rw [hq]; rfl
  have HB0 := hid b0
  clear HIA HRR
  subst h0; subst h1; subst h2; subst h3
  rw [← h4] at HX1 HW1 hq hqn
  rw [← h4]
  clear h4
  go_enter Try.func14, Try.ntmps14
  go_wp2_with fail
  rw [← HW1.out]
  refine (HC0.out _ HB1.out).mono ?_
  rintro e w2 ⟨rfl, hb2⟩
  have HX0 := hid (HX0.out.below hb2)
  have HX1 := hid (HX1.out.below hb2)
  have HB1 := hid (ext_trans HB1.out hb2)
  clear hb2
  have c4 := HX0.out.cell 4 (v := .slice a ths.length cap) rfl
  have d4 := HX1.out.cell 4 (v := .slice a' ths.length cap') rfl
  have lc := HX0.out.lt
  have ld := HX1.out.lt
  go_wp2_with fail
  go_loopw [5] (fun i wr => ∃ (k : Nat), k ≤ ths.length ∧ i = .int .i64 k ∧ Hid (ths.take k = ths'.take k) ∧ Hid (Blk wr w.heap.size #[.int .i64 st, .int .i64 ck, .int .i64 tr, .slice pi is.length ci, .slice a ths.length cap] 25) ∧ Hid (Blk wr (w.heap.size + 1) #[.int .i64 st, .int .i64 ck, .int .i64 tr, .slice pi' is.length ci', .slice a' ths.length cap'] 25) ∧ Hid (Below w.heap.size w wr)) (fun i _ => ths.length - (intOf i).toNat)
  case atStart => exact ⟨0, Nat.zero_le _, rfl, hid rfl, HX0, HX1, HB1⟩
  case round =>
    clear c4 d4 lc ld HX0 HX1 HB1 HW1 HC0 hq hqn b0 n0 b1 n1 b2 n2
    obtain ⟨wo, rfl⟩ : ∃ wo, wo = wr := ⟨_, rfl⟩
    obtain ⟨k, hk, rfl, HF, HXW, HYW, HBW⟩ := hrel
    have c4 := HXW.out.cell 4 (v := .slice a ths.length cap) rfl
    have d4 := HYW.out.cell 4 (v := .slice a' ths.length cap') rfl
    have lc := HXW.out.lt
    have ld := HYW.out.lt
    by_cases hlt : k < ths.length
    · have hlt' : k < ths'.length := by have := HLL.out; omega
      obtain ⟨q, off, rfl, hrd⟩ := HX.out (by intro h; subst h; simp at hlt)
      obtain ⟨q', off', rfl, hrd'⟩ := HX'.out (by intro h; subst h; simp at hlt')
      obtain ⟨vt, g0, ht⟩ := RdRow.get ths hrd k hlt
      obtain ⟨vt', g0', ht'⟩ := RdRow.get ths' hrd' k hlt'
      have HQ := hid (fun he => take_eq_succ_any hlt hlt' HF.out he)
      have HN : Hid (¬ ths[k]'hlt = ths'[k]'hlt' → r = false) := hid (fun hne => by cases r; rfl; exact absurd (by have := HRT.out.2 rfl; subst this; rfl) hne)
      obtain ⟨pt, ct, rfl, hlt2, hxt⟩ := ht
      obtain ⟨pt', ct', rfl, hlt2', hxt'⟩ := ht'
      have HE := hid g0
      have HE' := hid g0'
      have HLT := hid hlt
      have HXT := hid hxt
      have HXT' := hid hxt'
      have HL2 := hid hlt2
      have j1 : decide ((k : Int) < (ths.length : Int)) = true := by rw [decide_eq_true_iff]; omega
      have j1n : decide (k < ths.length) = true := decide_eq_true hlt
      have j2 : (0 : Int) ≤ (k : Int) := by omega
      have j2n : (k : Int) < (ths.length : Int) := by omega
      have j3 : IntKind.i64.wrap ((k : Int) + 1) = (k : Int) + 1 := IntWalk.i64_in _ (by omega)
      generalize ths[k]'hlt = th at *
      generalize ths'[k]'hlt' = th' at *
      clear hrd hrd' g0 g0' hxt hxt' hlt2 hlt2' hlt hlt'
      obtain ⟨ne, hne⟩ : ∃ ne : Bool, ((th.length : Int) != (th'.length : Int)) = ne := ⟨_, rfl⟩
      have HNE : Hid (ne = true ↔ th.length ≠ th'.length) := hid (by rw [← hne, bne_iff_ne]; constructor <;> intro h <;> omega)
      have HNV := hid hne
      clear hne
      go_upto_if 40 with fail
      apply wp_region_known (fun qq => ([(.pointer (some ⟨w.heap.size, 4, none⟩)), (.slice (some ⟨q, off, none⟩) ths.length cap), (.int .i64 (k : Int)), (.pointer (some ⟨q, off + k, none⟩)), (.slice pt th.length ct), (.int .i64 (th.length : Int)), (.pointer (some ⟨w.heap.size + 1, 4, none⟩)), (.slice (some ⟨q', off', none⟩) ths.length cap'), (.int .i64 (k : Int)), (.pointer (some ⟨q', off' + k, none⟩)), (.slice pt' th'.length ct'), (.int .i64 (th'.length : Int)), (.bool ne)] : List Value).getD qq undef) (fun w' => Below wo.heap.size wo w')
      focus (simp [putAll, dstOf, Act.put, List.getD]; rfl)
      case hm => kernel_rfl
      case hd => kernel_rfl
      case hb => kernel_rfl
      case hng => kernel_rfl
      case hsz => kernel_rfl
      case h0 => exact ext_drew (ext_refl _)
      case hstep =>
        refine ⟨?_, ?_, ?_, ?_, ?_, ?_, ?_, ?_, ?_, ?_, ?_, ?_, ?_, trivial⟩
        · refine ⟨(fun g b h => by cases h), fun w' hG hg ρ h1 h2 h3 h4 h5 => ?_⟩
          have hG := hid hG
          have f2 : ρ (.tmp 2) = .pointer (some ⟨w.heap.size, 0, none⟩) := h5 2 (by kernel_rfl)
          all_goals
            try dsimp only [WF, WT] at *
            clear h4 h5 hg
            unfold OpY
            go_simp
            first | exact ⟨rfl, hG.out⟩ | exact ⟨Or.inr rfl, hG.out⟩ | exact ⟨Or.inl rfl, hG.out⟩
        · refine ⟨(fun g b h => by cases h), fun w' hG hg ρ h1 h2 h3 h4 h5 => ?_⟩
          have hG := hid hG
          have f50 : ρ (.tmp 50) = (.pointer (some ⟨w.heap.size, 4, none⟩)) := h4 0 50 (by kernel_rfl) (by kernel_rfl)
          have y := later hG.out c4
          all_goals
            try dsimp only [WF, WT] at *
            clear h4 h5 hg
            unfold OpY
            go_simp
            first | exact ⟨rfl, hG.out⟩ | exact ⟨Or.inr rfl, hG.out⟩ | exact ⟨Or.inl rfl, hG.out⟩
        · refine ⟨(fun g b h => by cases h), fun w' hG hg ρ h1 h2 h3 h4 h5 => ?_⟩
          have hG := hid hG
          have f5 : ρ (.tmp 5) = .int .i64 (k : Int) := h5 5 (by kernel_rfl)
          all_goals
            try dsimp only [WF, WT] at *
            clear h4 h5 hg
            unfold OpY
            go_simp
            first | exact ⟨rfl, hG.out⟩ | exact ⟨Or.inr rfl, hG.out⟩ | exact ⟨Or.inl rfl, hG.out⟩
        · refine ⟨(fun g b h => by cases h), fun w' hG hg ρ h1 h2 h3 h4 h5 => ?_⟩
          have hG := hid hG
          have f51 : ρ (.tmp 51) = (.slice (some ⟨q, off, none⟩) ths.length cap) := h4 1 51 (by kernel_rfl) (by kernel_rfl)
          have f52 : ρ (.tmp 52) = (.int .i64 (k : Int)) := h4 2 52 (by kernel_rfl) (by kernel_rfl)
          all_goals
            try dsimp only [WF, WT] at *
            clear h4 h5 hg
            unfold OpY
            go_simp
            first | exact ⟨rfl, hG.out⟩ | exact ⟨Or.inr rfl, hG.out⟩ | exact ⟨Or.inl rfl, hG.out⟩
        · refine ⟨(fun g b h => by cases h), fun w' hG hg ρ h1 h2 h3 h4 h5 => ?_⟩
          have hG := hid hG
          have f53 : ρ (.tmp 53) = (.pointer (some ⟨q, off + k, none⟩)) := h4 3 53 (by kernel_rfl) (by kernel_rfl)
          have y := later (ext_trans HBW.out hG.out) HE.out
          all_goals
            try dsimp only [WF, WT] at *
            clear h4 h5 hg
            unfold OpY
            go_simp
            first | exact ⟨rfl, hG.out⟩ | exact ⟨Or.inr rfl, hG.out⟩ | exact ⟨Or.inl rfl, hG.out⟩
        · refine ⟨(fun g b h => by cases h), fun w' hG hg ρ h1 h2 h3 h4 h5 => ?_⟩
          have hG := hid hG
          have f54 : ρ (.tmp 54) = (.slice pt th.length ct) := h4 4 54 (by kernel_rfl) (by kernel_rfl)
          all_goals
            try dsimp only [WF, WT] at *
            clear h4 h5 hg
            unfold OpY
            go_simp
            first | exact ⟨rfl, hG.out⟩ | exact ⟨Or.inr rfl, hG.out⟩ | exact ⟨Or.inl rfl, hG.out⟩
        · refine ⟨(fun g b h => by cases h), fun w' hG hg ρ h1 h2 h3 h4 h5 => ?_⟩
          have hG := hid hG
          have f3 : ρ (.tmp 3) = .pointer (some ⟨w.heap.size + 1, 0, none⟩) := h5 3 (by kernel_rfl)
          all_goals
            try dsimp only [WF, WT] at *
            clear h4 h5 hg
            unfold OpY
            go_simp
            first | exact ⟨rfl, hG.out⟩ | exact ⟨Or.inr rfl, hG.out⟩ | exact ⟨Or.inl rfl, hG.out⟩
        · refine ⟨(fun g b h => by cases h), fun w' hG hg ρ h1 h2 h3 h4 h5 => ?_⟩
          have hG := hid hG
          have f56 : ρ (.tmp 56) = (.pointer (some ⟨w.heap.size + 1, 4, none⟩)) := h4 6 56 (by kernel_rfl) (by kernel_rfl)
          have y := later hG.out d4
          all_goals
            try dsimp only [WF, WT] at *
            clear h4 h5 hg
            unfold OpY
            go_simp
            first | exact ⟨rfl, hG.out⟩ | exact ⟨Or.inr rfl, hG.out⟩ | exact ⟨Or.inl rfl, hG.out⟩
        · refine ⟨(fun g b h => by cases h), fun w' hG hg ρ h1 h2 h3 h4 h5 => ?_⟩
          have hG := hid hG
          have f5 : ρ (.tmp 5) = .int .i64 (k : Int) := h5 5 (by kernel_rfl)
          all_goals
            try dsimp only [WF, WT] at *
            clear h4 h5 hg
            unfold OpY
            go_simp
            first | exact ⟨rfl, hG.out⟩ | exact ⟨Or.inr rfl, hG.out⟩ | exact ⟨Or.inl rfl, hG.out⟩
        · refine ⟨(fun g b h => by cases h), fun w' hG hg ρ h1 h2 h3 h4 h5 => ?_⟩
          have hG := hid hG
          have f57 : ρ (.tmp 57) = (.slice (some ⟨q', off', none⟩) ths.length cap') := h4 7 57 (by kernel_rfl) (by kernel_rfl)
          have f58 : ρ (.tmp 58) = (.int .i64 (k : Int)) := h4 8 58 (by kernel_rfl) (by kernel_rfl)
          all_goals
            try dsimp only [WF, WT] at *
            clear h4 h5 hg
            unfold OpY
            go_simp
            first | exact ⟨rfl, hG.out⟩ | exact ⟨Or.inr rfl, hG.out⟩ | exact ⟨Or.inl rfl, hG.out⟩
        · refine ⟨(fun g b h => by cases h), fun w' hG hg ρ h1 h2 h3 h4 h5 => ?_⟩
          have hG := hid hG
          have f59 : ρ (.tmp 59) = (.pointer (some ⟨q', off' + k, none⟩)) := h4 9 59 (by kernel_rfl) (by kernel_rfl)
          have y := later (ext_trans HBW.out hG.out) HE'.out
          all_goals
            try dsimp only [WF, WT] at *
            clear h4 h5 hg
            unfold OpY
            go_simp
            first | exact ⟨rfl, hG.out⟩ | exact ⟨Or.inr rfl, hG.out⟩ | exact ⟨Or.inl rfl, hG.out⟩
        · refine ⟨(fun g b h => by cases h), fun w' hG hg ρ h1 h2 h3 h4 h5 => ?_⟩
          have hG := hid hG
          have f60 : ρ (.tmp 60) = (.slice pt' th'.length ct') := h4 10 60 (by kernel_rfl) (by kernel_rfl)
          all_goals
            try dsimp only [WF, WT] at *
            clear h4 h5 hg
            unfold OpY
            go_simp
            first | exact ⟨rfl, hG.out⟩ | exact ⟨Or.inr rfl, hG.out⟩ | exact ⟨Or.inl rfl, hG.out⟩
        · refine ⟨(fun g b h => by cases h), fun w' hG hg ρ h1 h2 h3 h4 h5 => ?_⟩
          have hG := hid hG
          have f55 : ρ (.tmp 55) = (.int .i64 (th.length : Int)) := h4 5 55 (by kernel_rfl) (by kernel_rfl)
          have f61 : ρ (.tmp 61) = (.int .i64 (th'.length : Int)) := h4 11 61 (by kernel_rfl) (by kernel_rfl)
          have hnv := HNV.out
          all_goals
            try dsimp only [WF, WT] at *
            clear h4 h5 hg
            unfold OpY
            go_simp
            exact ⟨by first | exact congrArg Value.bool HNV.out | (rw [HNV.out]) | rfl, hG.out⟩
      case hdone =>
      intro wq hG
      have HXQ := hid (HXW.out.below hG)
      have HYQ := hid (HYW.out.below hG)
      have HBQ := hid (ext_trans HBW.out hG)
      clear hG c4 d4 lc ld HXW HYW HBW
      cases hcn : ne with
      | true =>
        have HRF := hid (HN.out (fun h => absurd (congrArg List.length h) (HNE.out.1 hcn)))
        subst hcn
        clear HQ HN HNE HNV
        go_wp2_with fail
        go_ret
        exact ⟨ret_bool HRF.out.symm, HBQ.out⟩
      | false =>
      have HLE : Hid (th.length = th'.length) := hid (by
        by_cases h : th.length = th'.length
        · exact h
        · rw [HNE.out.2 h] at hcn; cases hcn)
      subst hcn
      clear HNE HNV
      have c4 := HXQ.out.cell 4 (v := .slice (some ⟨q, off, none⟩) ths.length cap) rfl
      have d4 := HYQ.out.cell 4 (v := .slice (some ⟨q', off', none⟩) ths.length cap') rfl
      have lc := HXQ.out.lt
      have ld := HYQ.out.lt
      have g0 := later HBQ.out HE.out
      have lq := lt_of_cell g0
      go_wp2_with fail
      go_loopw [6] (fun i wx => ∃ (j : Nat), j ≤ th.length ∧ i = .int .i64 j ∧ Hid (th.take j = th'.take j) ∧ Hid (Blk wx w.heap.size #[.int .i64 st, .int .i64 ck, .int .i64 tr, .slice pi is.length ci, .slice (some ⟨q, off, none⟩) ths.length cap] 25) ∧ Hid (Blk wx (w.heap.size + 1) #[.int .i64 st, .int .i64 ck, .int .i64 tr, .slice pi' is.length ci', .slice (some ⟨q', off', none⟩) ths.length cap'] 25) ∧ Hid (Below w.heap.size w wx)) (fun i _ => th.length - (intOf i).toNat)
      case atStart => exact ⟨0, Nat.zero_le _, rfl, hid rfl, HXQ, HYQ, HBQ⟩
      case round =>
        clear c4 d4 lc ld g0 lq HXQ HYQ HBQ
        obtain ⟨wi, rfl⟩ : ∃ wi, wi = wr := ⟨_, rfl⟩
        obtain ⟨j, hj, rfl, HFJ, HXX, HYX, HBX⟩ := hrel
        have c4 := HXX.out.cell 4 (v := .slice (some ⟨q, off, none⟩) ths.length cap) rfl
        have d4 := HYX.out.cell 4 (v := .slice (some ⟨q', off', none⟩) ths.length cap') rfl
        have lc := HXX.out.lt
        have ld := HYX.out.lt
        have g0 := later HBX.out HE.out
        have lq := lt_of_cell g0
        by_cases hlj : j < th.length
        · have hlj' : j < th'.length := by have := HLE.out; omega
          obtain ⟨z, zo, rfl, hzd⟩ := HXT.out (by intro h; subst h; simp at hlj)
          obtain ⟨z', zo', rfl, hzd'⟩ := HXT'.out (by intro h; subst h; simp at hlj')
          obtain ⟨vx, f0, hx⟩ := RdRow.get th hzd j hlj
          obtain ⟨vx', f0', hx'⟩ := RdRow.get th' hzd' j hlj'
          have HTX := hid hx
          have HTX' := hid hx'
          have HQJ := hid (fun he => take_eq_succ_any hlj hlj' HFJ.out he)
          have HNJ : Hid (¬ th[j]'hlj = th'[j]'hlj' → ¬ th = th') := hid (fun hne he => hne (by subst he; rfl))
          obtain ⟨px, cx, rfl, -, -⟩ := hx
          obtain ⟨px', cx', rfl, -, -⟩ := hx'
          have HZ := hid f0
          have HZ' := hid f0'
          have HLJ := hid hlj
          have i1 : decide ((j : Int) < (th.length : Int)) = true := by rw [decide_eq_true_iff]; omega
          have i1n : decide (j < th.length) = true := decide_eq_true hlj
          have i2 : (0 : Int) ≤ (j : Int) := by omega
          have i2n : (j : Int) < (th.length : Int) := by omega
          have i2m : (j : Int) < (th'.length : Int) := by omega
          have i3 : IntKind.i64.wrap ((j : Int) + 1) = (j : Int) + 1 := IntWalk.i64_in _ (by have := HL2.out; omega)
          have k2n : (k : Int) < (ths.length : Int) := by have := HLT.out; omega
          have k2 : (0 : Int) ≤ (k : Int) := by omega
          generalize th[j]'hlj = tx at *
          generalize th'[j]'hlj' = tx' at *
          clear hzd hzd' f0 f0' hlj hlj'
          obtain ⟨qs, hqs⟩ : ∃ qs : Bool, (tx = tx' ↔ qs = true) := by
            by_cases h : tx = tx'
            · exact ⟨true, by simp [h]⟩
            · exact ⟨false, by simp [h]⟩
          have HQS := hid hqs
          have HCS := hid (fun (W : World) (h : Below w.heap.size w W) => rtsame_any (sizeT tx + 1) tx tx' W _ _ (Nat.lt_succ_self _) (HTX.out.below h) (HTX'.out.below h) qs HQS.out)
          clear hqs
          go_upto_if 40 with fail
          apply wp_region_known (fun qq => ([(.pointer (some ⟨w.heap.size, 4, none⟩)), (.slice (some ⟨q, off, none⟩) ths.length cap), (.int .i64 (k : Int)), (.pointer (some ⟨q, off + k, none⟩)), (.slice (some ⟨z, zo, none⟩) th.length ct), (.int .i64 (j : Int)), (.pointer (some ⟨z, zo + j, none⟩)), (.slice px tx.length cx), (.pointer (some ⟨w.heap.size + 1, 4, none⟩)), (.slice (some ⟨q', off', none⟩) ths.length cap'), (.int .i64 (k : Int)), (.pointer (some ⟨q', off' + k, none⟩)), (.slice (some ⟨z', zo', none⟩) th'.length ct'), (.int .i64 (j : Int)), (.pointer (some ⟨z', zo' + j, none⟩)), (.slice px' tx'.length cx'), (.bool qs), (.bool (!qs))] : List Value).getD qq undef) (fun w' => Below wi.heap.size wi w')
          focus (simp [putAll, dstOf, Act.put, List.getD]; rfl)
          case hm => kernel_rfl
          case hd => kernel_rfl
          case hb => kernel_rfl
          case hng => kernel_rfl
          case hsz => kernel_rfl
          case h0 => exact ext_drew (ext_refl _)
          case hstep =>
            refine ⟨?_, ?_, ?_, ?_, ?_, ?_, ?_, ?_, ?_, ?_, ?_, ?_, ?_, ?_, ?_, ?_, ?_, ?_, trivial⟩
            · refine ⟨(fun g b h => by cases h), fun w' hG hg ρ h1 h2 h3 h4 h5 => ?_⟩
              have hG := hid hG
              have f2 : ρ (.tmp 2) = .pointer (some ⟨w.heap.size, 0, none⟩) := h5 2 (by kernel_rfl)
              all_goals
                try dsimp only [WF, WT] at *
                clear h4 h5 hg
                unfold OpY
                go_simp
                first | exact ⟨rfl, hG.out⟩ | exact ⟨Or.inr rfl, hG.out⟩ | exact ⟨Or.inl rfl, hG.out⟩
            · refine ⟨(fun g b h => by cases h), fun w' hG hg ρ h1 h2 h3 h4 h5 => ?_⟩
              have hG := hid hG
              have f73 : ρ (.tmp 73) = (.pointer (some ⟨w.heap.size, 4, none⟩)) := h4 0 73 (by kernel_rfl) (by kernel_rfl)
              have y := later hG.out c4
              all_goals
                try dsimp only [WF, WT] at *
                clear h4 h5 hg
                unfold OpY
                go_simp
                first | exact ⟨rfl, hG.out⟩ | exact ⟨Or.inr rfl, hG.out⟩ | exact ⟨Or.inl rfl, hG.out⟩
            · refine ⟨(fun g b h => by cases h), fun w' hG hg ρ h1 h2 h3 h4 h5 => ?_⟩
              have hG := hid hG
              have f5 : ρ (.tmp 5) = .int .i64 (k : Int) := h5 5 (by kernel_rfl)
              all_goals
                try dsimp only [WF, WT] at *
                clear h4 h5 hg
                unfold OpY
                go_simp
                first | exact ⟨rfl, hG.out⟩ | exact ⟨Or.inr rfl, hG.out⟩ | exact ⟨Or.inl rfl, hG.out⟩
            · refine ⟨(fun g b h => by cases h), fun w' hG hg ρ h1 h2 h3 h4 h5 => ?_⟩
              have hG := hid hG
              have f74 : ρ (.tmp 74) = (.slice (some ⟨q, off, none⟩) ths.length cap) := h4 1 74 (by kernel_rfl) (by kernel_rfl)
              have f75 : ρ (.tmp 75) = (.int .i64 (k : Int)) := h4 2 75 (by kernel_rfl) (by kernel_rfl)
              all_goals
                try dsimp only [WF, WT] at *
                clear h4 h5 hg
                unfold OpY
                go_simp
                first | exact ⟨rfl, hG.out⟩ | exact ⟨Or.inr rfl, hG.out⟩ | exact ⟨Or.inl rfl, hG.out⟩
            · refine ⟨(fun g b h => by cases h), fun w' hG hg ρ h1 h2 h3 h4 h5 => ?_⟩
              have hG := hid hG
              have f76 : ρ (.tmp 76) = (.pointer (some ⟨q, off + k, none⟩)) := h4 3 76 (by kernel_rfl) (by kernel_rfl)
              have y := later (ext_trans HBX.out hG.out) HE.out
              all_goals
                try dsimp only [WF, WT] at *
                clear h4 h5 hg
                unfold OpY
                go_simp
                first | exact ⟨rfl, hG.out⟩ | exact ⟨Or.inr rfl, hG.out⟩ | exact ⟨Or.inl rfl, hG.out⟩
            · refine ⟨(fun g b h => by cases h), fun w' hG hg ρ h1 h2 h3 h4 h5 => ?_⟩
              have hG := hid hG
              have f6 : ρ (.tmp 6) = .int .i64 (j : Int) := h5 6 (by kernel_rfl)
              all_goals
                try dsimp only [WF, WT] at *
                clear h4 h5 hg
                unfold OpY
                go_simp
                first | exact ⟨rfl, hG.out⟩ | exact ⟨Or.inr rfl, hG.out⟩ | exact ⟨Or.inl rfl, hG.out⟩
            · refine ⟨(fun g b h => by cases h), fun w' hG hg ρ h1 h2 h3 h4 h5 => ?_⟩
              have hG := hid hG
              have f77 : ρ (.tmp 77) = (.slice (some ⟨z, zo, none⟩) th.length ct) := h4 4 77 (by kernel_rfl) (by kernel_rfl)
              have f78 : ρ (.tmp 78) = (.int .i64 (j : Int)) := h4 5 78 (by kernel_rfl) (by kernel_rfl)
              all_goals
                try dsimp only [WF, WT] at *
                clear h4 h5 hg
                unfold OpY
                go_simp
                first | exact ⟨rfl, hG.out⟩ | exact ⟨Or.inr rfl, hG.out⟩ | exact ⟨Or.inl rfl, hG.out⟩
            · refine ⟨(fun g b h => by cases h), fun w' hG hg ρ h1 h2 h3 h4 h5 => ?_⟩
              have hG := hid hG
              have f79 : ρ (.tmp 79) = (.pointer (some ⟨z, zo + j, none⟩)) := h4 6 79 (by kernel_rfl) (by kernel_rfl)
              have y := later (ext_trans HBX.out hG.out) HZ.out
              all_goals
                try dsimp only [WF, WT] at *
                clear h4 h5 hg
                unfold OpY
                go_simp
                first | exact ⟨rfl, hG.out⟩ | exact ⟨Or.inr rfl, hG.out⟩ | exact ⟨Or.inl rfl, hG.out⟩
            · refine ⟨(fun g b h => by cases h), fun w' hG hg ρ h1 h2 h3 h4 h5 => ?_⟩
              have hG := hid hG
              have f3 : ρ (.tmp 3) = .pointer (some ⟨w.heap.size + 1, 0, none⟩) := h5 3 (by kernel_rfl)
              all_goals
                try dsimp only [WF, WT] at *
                clear h4 h5 hg
                unfold OpY
                go_simp
                first | exact ⟨rfl, hG.out⟩ | exact ⟨Or.inr rfl, hG.out⟩ | exact ⟨Or.inl rfl, hG.out⟩
            · refine ⟨(fun g b h => by cases h), fun w' hG hg ρ h1 h2 h3 h4 h5 => ?_⟩
              have hG := hid hG
              have f81 : ρ (.tmp 81) = (.pointer (some ⟨w.heap.size + 1, 4, none⟩)) := h4 8 81 (by kernel_rfl) (by kernel_rfl)
              have y := later hG.out d4
              all_goals
                try dsimp only [WF, WT] at *
                clear h4 h5 hg
                unfold OpY
                go_simp
                first | exact ⟨rfl, hG.out⟩ | exact ⟨Or.inr rfl, hG.out⟩ | exact ⟨Or.inl rfl, hG.out⟩
            · refine ⟨(fun g b h => by cases h), fun w' hG hg ρ h1 h2 h3 h4 h5 => ?_⟩
              have hG := hid hG
              have f5 : ρ (.tmp 5) = .int .i64 (k : Int) := h5 5 (by kernel_rfl)
              all_goals
                try dsimp only [WF, WT] at *
                clear h4 h5 hg
                unfold OpY
                go_simp
                first | exact ⟨rfl, hG.out⟩ | exact ⟨Or.inr rfl, hG.out⟩ | exact ⟨Or.inl rfl, hG.out⟩
            · refine ⟨(fun g b h => by cases h), fun w' hG hg ρ h1 h2 h3 h4 h5 => ?_⟩
              have hG := hid hG
              have f82 : ρ (.tmp 82) = (.slice (some ⟨q', off', none⟩) ths.length cap') := h4 9 82 (by kernel_rfl) (by kernel_rfl)
              have f83 : ρ (.tmp 83) = (.int .i64 (k : Int)) := h4 10 83 (by kernel_rfl) (by kernel_rfl)
              all_goals
                try dsimp only [WF, WT] at *
                clear h4 h5 hg
                unfold OpY
                go_simp
                first | exact ⟨rfl, hG.out⟩ | exact ⟨Or.inr rfl, hG.out⟩ | exact ⟨Or.inl rfl, hG.out⟩
            · refine ⟨(fun g b h => by cases h), fun w' hG hg ρ h1 h2 h3 h4 h5 => ?_⟩
              have hG := hid hG
              have f84 : ρ (.tmp 84) = (.pointer (some ⟨q', off' + k, none⟩)) := h4 11 84 (by kernel_rfl) (by kernel_rfl)
              have y := later (ext_trans HBX.out hG.out) HE'.out
              all_goals
                try dsimp only [WF, WT] at *
                clear h4 h5 hg
                unfold OpY
                go_simp
                first | exact ⟨rfl, hG.out⟩ | exact ⟨Or.inr rfl, hG.out⟩ | exact ⟨Or.inl rfl, hG.out⟩
            · refine ⟨(fun g b h => by cases h), fun w' hG hg ρ h1 h2 h3 h4 h5 => ?_⟩
              have hG := hid hG
              have f6 : ρ (.tmp 6) = .int .i64 (j : Int) := h5 6 (by kernel_rfl)
              all_goals
                try dsimp only [WF, WT] at *
                clear h4 h5 hg
                unfold OpY
                go_simp
                first | exact ⟨rfl, hG.out⟩ | exact ⟨Or.inr rfl, hG.out⟩ | exact ⟨Or.inl rfl, hG.out⟩
            · refine ⟨(fun g b h => by cases h), fun w' hG hg ρ h1 h2 h3 h4 h5 => ?_⟩
              have hG := hid hG
              have f85 : ρ (.tmp 85) = (.slice (some ⟨z', zo', none⟩) th'.length ct') := h4 12 85 (by kernel_rfl) (by kernel_rfl)
              have f86 : ρ (.tmp 86) = (.int .i64 (j : Int)) := h4 13 86 (by kernel_rfl) (by kernel_rfl)
              all_goals
                try dsimp only [WF, WT] at *
                clear h4 h5 hg
                unfold OpY
                go_simp
                first | exact ⟨rfl, hG.out⟩ | exact ⟨Or.inr rfl, hG.out⟩ | exact ⟨Or.inl rfl, hG.out⟩
            · refine ⟨(fun g b h => by cases h), fun w' hG hg ρ h1 h2 h3 h4 h5 => ?_⟩
              have hG := hid hG
              have f87 : ρ (.tmp 87) = (.pointer (some ⟨z', zo' + j, none⟩)) := h4 14 87 (by kernel_rfl) (by kernel_rfl)
              have y := later (ext_trans HBX.out hG.out) HZ'.out
              all_goals
                try dsimp only [WF, WT] at *
                clear h4 h5 hg
                unfold OpY
                go_simp
                first | exact ⟨rfl, hG.out⟩ | exact ⟨Or.inr rfl, hG.out⟩ | exact ⟨Or.inl rfl, hG.out⟩
            · refine ⟨(fun g b h => by cases h), fun w' hG hg ρ h1 h2 h3 h4 h5 => ?_⟩
              have hG := hid hG
              have f80 : ρ (.tmp 80) = (.slice px tx.length cx) := h4 7 80 (by kernel_rfl) (by kernel_rfl)
              have f88 : ρ (.tmp 88) = (.slice px' tx'.length cx') := h4 15 88 (by kernel_rfl) (by kernel_rfl)
              all_goals
                try dsimp only [WF, WT] at *
                clear h4 h5 hg
                unfold OpY
                go_simp
                unfold OpR
                refine (HCS.out w' (ext_trans HBX.out hG.out)).mono ?_
                rintro e' w2 ⟨rfl, hb2⟩
                exact ⟨_, rfl, (by first | exact rfl | exact Or.inr rfl), ext_trans hG.out hb2⟩
            · refine ⟨(fun g b h => by cases h), fun w' hG hg ρ h1 h2 h3 h4 h5 => ?_⟩
              have hG := hid hG
              have f89 : ρ (.tmp 89) = (.bool qs) := h4 16 89 (by kernel_rfl) (by kernel_rfl)
              all_goals
                try dsimp only [WF, WT] at *
                clear h4 h5 hg
                unfold OpY
                go_simp
                first | exact ⟨rfl, hG.out⟩ | exact ⟨Or.inr rfl, hG.out⟩ | exact ⟨Or.inl rfl, hG.out⟩
          case hdone =>
          intro wz hG
          have HXZ := hid (HXX.out.below hG)
          have HYZ := hid (HYX.out.below hG)
          have HBZ := hid (ext_trans HBX.out hG)
          clear hG c4 d4 lc ld g0 lq HXX HYX HBX HCS
          cases qs with
          | false =>
            have HRF := hid (HN.out (HNJ.out (fun h => by have := HQS.out.1 h; cases this)))
            clear HQ HN HQJ HNJ HQS
            go_wp2_with fail
            go_ret
            exact ⟨ret_bool HRF.out.symm, HBZ.out⟩
          | true =>
            have HT := hid (HQJ.out (HQS.out.2 rfl))
            clear HQJ HNJ HQS
            go_wp2_with fail
            go_roundw
            case rel => exact ⟨j + 1, HLJ.out, by go_num, HT, HXZ, HYZ, HBZ⟩
            case measure => have := HLJ.out; simp [intOf]; omega
        · obtain rfl : j = th.length := by omega
          have i1 : decide ((th.length : Int) < (th.length : Int)) = false := by rw [decide_eq_false_iff_not]; omega
          have i1n : decide (th.length < th.length) = false := by simp
          have HT := hid (HQ.out (by have := HFJ.out; rw [List.take_length, HLE.out, List.take_length] at this; exact this))
          go_wp2_with fail
          go_roundw
          case rel => exact ⟨k + 1, HLT.out, by go_num, HT, HXX, HYX, HBX⟩
          case measure => have := HLT.out; simp [intOf]; omega
    · obtain rfl : k = ths.length := by omega
      have j1 : decide ((ths.length : Int) < (ths.length : Int)) = false := by rw [decide_eq_false_iff_not]; omega
      have j1n : decide (ths.length < ths.length) = false := by simp
      have HRF := hid (HRT.out.1 (by have := HF.out; rw [List.take_length, HLL.out, List.take_length] at this; exact this))
      go_wp2_with fail
      go_ret
      exact ⟨ret_bool HRF.out.symm, HBW.out⟩
end Go.Proofs.Ytoeegiaajngpeaa
