/-
  Walk: SliceClosed.
-/
import Derived.Test.YtcdgfnocjnampaaSlL4
namespace Go.Proofs.Ytcdgfnocjnampaa
set_option linter.unusedVariables false
set_option linter.unusedSimpArgs false
set_option linter.unusedVariables false
open Go Go.RowKit
theorem candB_top {L : List Att} {v : Int} {k : Nat} (hk : k < L.length) (hb : ∀ a ∈ L, AttB a) : candB (L.getD k Att.zero) v 9223372036854775807 = candB (L.getD k Att.zero) v (topL L) := by
  unfold candB
  have h1 : (L.getD k Att.zero).wv ≤ topL L := topK_ge L L.length k hk
  have h2 : (L.getD k Att.zero).wv ≤ 9223372036854775807 := by
    rw [List.getD_eq_getElem?_getD, List.getElem?_eq_getElem hk]
    exact (hb _ (List.getElem_mem hk)).wv.2
  rw [decide_eq_true h1, decide_eq_true h2]
theorem writerK_top {L : List Att} {v : Int} (hb : ∀ a ∈ L, AttB a) : ∀ k, k ≤ L.length → writerK L v 9223372036854775807 k = writerK L v (topL L) k
  | 0, _ => rfl
  | k + 1, h => by
    unfold writerK
    rw [candB_top (by omega) hb, writerK_top hb k (by omega)]
theorem writerL_top {L : List Att} {v : Int} (hb : ∀ a ∈ L, AttB a) : writerL L v 9223372036854775807 = writerL L v (topL L) := writerK_top hb L.length (Nat.le_refl _)
theorem kept_root {L : List Att} {vars : List Int} {v : Int} (hv : v ∈ vars) {n : Nat} (h : writerL L v (topL L) = (n : Int)) : n ∈ keptL L vars := by
  refine ((keptL_is L vars).2 n).2 (.root (List.mem_append_left _ (List.mem_filterMap.2 ⟨v, hv, ?_⟩)))
  rw [h, if_pos (by omega)]; simp
theorem kept_open {L : List Att} {vars : List Int} {n : Nat} (hn : n < L.length) (h : openB L[n] = true) : n ∈ keptL L vars := by
  refine ((keptL_is L vars).2 n).2 (.root (List.mem_append_right _ (List.mem_filter.2 ⟨List.mem_range.2 hn, ?_⟩)))
  rw [List.getD_eq_getElem?_getD, List.getElem?_eq_getElem hn]; exact h
theorem kept_read {L : List Att} {vars : List Int} {i m n : Nat} (hi : i < L.length) (hk : i ∈ keptL L vars) (hm : m < L[i].reads.length) (h : writerL L L[i].reads[m].1 L[i].rv = (n : Int)) : n ∈ keptL L vars := by
  refine ((keptL_is L vars).2 n).2 (.step (((keptL_is L vars).2 i).1 hk) ?_)
  rw [List.getD_eq_getElem?_getD, List.getElem?_eq_getElem hi]
  refine List.mem_append_left _ (List.mem_filterMap.2 ⟨L[i].reads[m], List.getElem_mem hm, ?_⟩)
  show (if 0 ≤ writerL L L[i].reads[m].1 L[i].rv then some (writerL L L[i].reads[m].1 L[i].rv).toNat else none) = some n
  rw [h, if_pos (by omega)]; simp
theorem kept_before {L : List Att} {vars : List Int} {i k : Nat} (hi : i < L.length) (hk : i ∈ keptL L vars) (hkl : k < L.length) (h : beforeB L[i] L[k] = true) : k ∈ keptL L vars := by
  refine ((keptL_is L vars).2 k).2 (.step (((keptL_is L vars).2 i).1 hk) ?_)
  rw [List.getD_eq_getElem?_getD, List.getElem?_eq_getElem hi]
  refine List.mem_append_right _ (List.mem_filter.2 ⟨List.mem_range.2 hkl, ?_⟩)
  rw [List.getD_eq_getElem?_getD, List.getElem?_eq_getElem hkl]; exact h
theorem rdAtts_ok {w : World} {L : List Att} {v : Value} (h : RdAtts w L v) : ∀ a ∈ L, AttB a := by
  intro a ha
  obtain ⟨k, hk, rfl⟩ := List.mem_iff_getElem.1 ha
  obtain ⟨_, _, _, _, hx⟩ := h
  obtain ⟨b, o, _, hc⟩ := hx (by intro e; subst e; simp at hk)
  obtain ⟨r, u, h⟩ := hc k hk
  exact h.ok
set_option maxRecDepth 100000 in
set_option maxHeartbeats 4000000 in
theorem sliceClosed_walk (L : List Att) (vars : List Int) (w : World) (vl va : Value) (hL : RdAtts w L vl) (hA : RdI w vars va) (hb : ∀ x ∈ L, x.reads.length ≤ 8796093022208 ∧ x.writes.length ≤ 8796093022208) :
    Calls Try.prog 3 #[vl, va] w fun e w' => e = .returned (.bool true) ∧ Below w.heap.size w w' := by
  have HW := hid works_any
  have HLG := hid (fun w v h => large_any L w v h hb)
  have HOK := hid (rdAtts_ok hL)
  have HL := hid hL
  have HA := hid hA
  obtain ⟨al, cl, hvl, hll, hlx⟩ := id hL
  obtain ⟨aa, ca, hva, hal, hab, hax, -⟩ := id hA
  have HLX := hid hlx
  have HAX := hid hax
  clear hL hA hb hab hlx hax
  subst hvl hva
  have hbx : Blk (w.alloc (.cells #[.slice al L.length cl] 22)) w.heap.size #[.slice al L.length cl] 22 := Blk.new _ _ _
  have HBX := hid hbx
  have hB0 := ext_alloc (ext_refl w) (.cells #[.slice al L.length cl] 22)
  go_enter Try.func3, Try.ntmps3
  go_wp2_with fail
  refine (HW.out _).mono ?_
  rintro e' w1 ⟨rfl, hb1⟩
  have hB1 := ext_trans hB0 hb1
  have HBX1 := hid (HBX.out.below hb1)
  have c1 := HBX1.out.cell 0 (v := .slice al L.length cl) rfl
  go_wp2_with fail
  refine (HLG.out _ _ (HL.out.below hB1)).mono ?_
  rintro e' w2 ⟨q, rfl, hq, hb2⟩
  have hB2 := ext_trans hB1 hb2
  have HBX2 := hid (HBX1.out.below hb2)
  have c2 := HBX2.out.cell 0 (v := .slice al L.length cl) rfl
  have HQ := hid hq
  clear hq
  cases q
  case' true =>
    go_wp2_with fail
    refine (HW.out _).mono ?_
    rintro e' w3 ⟨rfl, hb3⟩
    go_wp2_with fail
    go_ret
    exact ⟨rfl, ext_trans hB2 hb3⟩
  by_cases h1 : vars.length ≤ 50
  case' neg =>
    have g1 : (50 : Int) < (vars.length : Int) := by omega
    clear h1
    go_wp2_with fail
    refine (HW.out _).mono ?_
    rintro e' w3 ⟨rfl, hb3⟩
    go_wp2_with fail
    go_ret
    exact ⟨rfl, ext_trans hB2 hb3⟩
  have g1 : decide ((50 : Int) < (vars.length : Int)) = false := by rw [decide_eq_false_iff_not]; omega
  obtain ⟨hl60, hs⟩ := HQ.out rfl
  have H1 := hid h1
  have HKA := hid (fun w vl vv h1' h2' => kept_any L vars w vl vv h1' h2' (big_of hl60 hs (by omega)) (by omega))
  have HKL := hid (Nat.le_trans (kept_len (L := L) (vars := vars)) hl60)
  have H60 := hid hl60
  have HWL : Hid (∀ a ∈ L, a.reads.length ≤ 1000000000 ∧ a.writes.length ≤ 1000000000) := hid (fun a ha => by
    obtain ⟨k, hk, rfl⟩ := List.mem_iff_getElem.1 ha
    have := sumK_ge L L.length k hk
    rw [List.getD_eq_getElem?_getD, List.getElem?_eq_getElem hk] at this
    simp only [Option.getD_some] at this
    omega)
  clear h1 hl60 hs
  go_wp2_with fail
  refine (HKA.out _ _ _ (HL.out.below hB2) (HA.out.below hB2)).mono ?_
  rintro e' W ⟨v3, rfl, ho3, hb3⟩
  have hB3 := ext_trans hB2 hb3
  have HBXW := hid (HBX2.out.below hb3)
  have cW := HBXW.out.cell 0 (v := .slice al L.length cl) rfl
  have HR := hid (rdNats_of_own ho3)
  obtain ⟨a3, k3, hv3⟩ := own_sl ho3
  subst hv3
  have HLW := hid (HL.out.below hB3)
  have HB3 := hid hB3
  have HLXW : Hid (L ≠ [] → ∃ b o, al = some ⟨b, o, none⟩ ∧ ∀ k (h : k < L.length), ∃ r u, AttC W b (o + k * 9) L[k] r u) := hid (fun hn => by
    obtain ⟨b, o, h1, h2⟩ := HLX.out hn
    exact ⟨b, o, h1, fun k hk => by obtain ⟨r, u, h3⟩ := h2 k hk; exact ⟨r, u, h3.below hB3⟩⟩)
  have HAXW : Hid (vars ≠ [] → ∃ b o, aa = some ⟨b, o, none⟩ ∧ ∀ k (h : k < vars.length), W.cell? ⟨b, o + k, none⟩ = some (.int .i64 vars[k])) := hid (fun hn => by
    obtain ⟨b, o, h1, h2⟩ := HAX.out hn
    exact ⟨b, o, h1, fun k hk => later hB3 (h2 k hk)⟩)
  have HKX : Hid (keptL L vars ≠ [] → ∃ b o, a3 = some ⟨b, o, none⟩ ∧ ∀ k (h : k < (keptL L vars).length), W.cell? ⟨b, o + k, none⟩ = some (.int .i64 ((keptL L vars)[k] : Int))) := hid (by
    obtain ⟨x, c, he, hx⟩ := HR.out
    cases he
    exact hx)
  have HLAST : Hid (∀ n v most, Calls Try.prog 8 #[.int .i64 v, .int .i64 most, .pointer (some ⟨w.heap.size, 0, none⟩)] (W.drewN n) fun e' w' => e' = .returned (.int .i64 (writerL L v most)) ∧ ∃ m, w' = (W.drewN n).drewN m) := hid (fun n v most => last_any L v most (W.drewN n) _ w.heap.size (HLW.out.below (ext_drewN (ext_refl _) _)) cW (fun a ha => (HWL.out a ha).2) (by have := H60.out; omega))
  have HIN : Hid (∀ n k, Calls Try.prog 9 #[.slice a3 (keptL L vars).length k3, .int .i64 ((k : Nat) : Int)] (W.drewN n) fun e' w' => e' = .returned (.bool (decide (k ∈ keptL L vars))) ∧ w' = W.drewN n) := hid (fun n k => in_same (keptL L vars) k (W.drewN n) _ (HR.out.below (ext_drewN (ext_refl _) _)) (by have := HKL.out; omega))
  have HSO := hid (keptL_is L vars).1
  have HLT0 := hid (keptL_is L vars).lt
  have hwl := HBXW.out.lt
  have HMR := hid (fun (v : Int) (h : v ∈ vars) (n : Nat) (e : writerL L v (topL L) = (n : Int)) => kept_root (L := L) h e)
  have HMO := hid (fun (n : Nat) (h : n < L.length) (e : openB L[n] = true) => kept_open (vars := vars) h e)
  have HMD := hid (fun (i m n : Nat) (hi : i < L.length) (hk : i ∈ keptL L vars) (hm : m < L[i].reads.length) (h : writerL L L[i].reads[m].1 L[i].rv = (n : Int)) => kept_read (vars := vars) hi hk hm h)
  have HMB := hid (fun (i k : Nat) (hi : i < L.length) (hk : i ∈ keptL L vars) (hkl : k < L.length) (h : beforeB L[i] L[k] = true) => kept_before (vars := vars) hi hk hkl h)
  generalize keptL L vars = K at *
  clear ho3 HKA HQ HLG HW c1 c2 HBX HBX1 HBX2 HL HA HLX HAX
  go_wp2_with fail
  go_loopw [6] (fun i wr => ∃ k m : Nat, k ≤ K.length ∧ i = .int .i64 k ∧ wr = W.drewN m) (fun i _ => K.length - (intOf i).toNat)
  case atStart => exact ⟨0, 0, Nat.zero_le _, rfl, rfl⟩
  case round =>
    obtain ⟨k, m, hk, rfl, rfl⟩ := hrel
    by_cases hlt : k < K.length
    · obtain ⟨b, o, rfl, hcell⟩ := HKX.out (by intro h; subst h; simp at hlt)
      have d0 := hcell k hlt
      have hbl := lt_of_cell d0
      have j1 : decide ((k : Int) < (K.length : Int)) = true := by rw [decide_eq_true_iff]; omega
      have j1n : decide (k < K.length) = true := decide_eq_true hlt
      have j2 : (0 : Int) ≤ (k : Int) := by omega
      have j3 : IntKind.i64.wrap ((k : Int) + 1) = ((k + 1 : Nat) : Int) := by have := HKL.out; rw [IntWalk.i64_in _ (by omega)]; omega
      have HX : Hid (K[k] < L.length) := hid (HLT0.out _ (List.getElem_mem hlt))
      have HLT := hid hlt
      have x1 : decide ((K[k] : Int) < 0) = false := by rw [decide_eq_false_iff_not]; omega
      have x2 : decide ((L.length : Int) ≤ (K[k] : Int)) = false := by have := HX.out; rw [decide_eq_false_iff_not]; omega
      have x2n : decide (L.length ≤ K[k]) = false := by have := HX.out; rw [decide_eq_false_iff_not]; omega
      have hcW : (W.drewN m).cell? ⟨w.heap.size, 0, none⟩ = some (.slice al L.length cl) := cW
      by_cases hk0 : k = 0
      · subst hk0
        have d00 : W.cell? ⟨b, o, none⟩ = some (.int .i64 (K[0] : Int)) := d0
        clear hcell
        go_wp2_with fail
        go_quiet (fail)
        go_wp2_with fail
        go_roundw
        case rel => exact ⟨1, _, HLT.out, by simp, rfl⟩
        case measure => have := HLT.out; simp [intOf]; omega
      · obtain ⟨p, hp⟩ : ∃ p, k = p + 1 := ⟨k - 1, by omega⟩
        have hlt' : p < K.length := by omega
        have d1 := hcell p hlt'
        have y1 : IntKind.i64.wrap ((k : Int) - 1) = (p : Int) := by have := HKL.out; rw [IntWalk.i64_in _ (by omega)]; omega
        have y1w : wrap64 ((k : Int) - 1) = (p : Int) := by have := HKL.out; rw [wrap64_in (by omega)]; omega
        have y1x : (k : Int) - 1 = (p : Int) := by omega
        have y1p : IntKind.i64.wrap (p : Int) = (p : Int) := by have := HKL.out; rw [IntWalk.i64_in _ (by omega)]
        have y2 : (0 : Int) ≤ (p : Int) := by omega
        have y3 : decide ((p : Int) < (K.length : Int)) = true := by rw [decide_eq_true_iff]; omega
        have y3n : decide (p < K.length) = true := decide_eq_true hlt'
        have HY : Hid (K[p] < K[k]) := hid (List.pairwise_iff_getElem.1 HSO.out p k hlt' hlt (by omega))
        have y4 : decide ((K[k] : Int) ≤ (K[p] : Int)) = false := by have := HY.out; rw [decide_eq_false_iff_not]; omega
        have y4n : decide (K[k] ≤ K[p]) = false := by have := HY.out; rw [decide_eq_false_iff_not]; omega
        have y5 : decide ((0 : Int) < (k : Int)) = true := by rw [decide_eq_true_iff]; omega
        have y5n : decide (0 < k) = true := by rw [decide_eq_true_iff]; omega
        have HPP := hid hp
        clear hp hk0 hcell HX HY
        have d0' := d0
        have d1' := d1
        clear d0 d1
        generalize K[k]'hlt = xk at *
        generalize K[p]'hlt' = xp at *
        have z1 : ¬ ((xk : Int) < 0) := by omega
        go_wp2_with fail
        go_quiet (fail)
        go_wp2_with fail
        go_roundw
        case rel => exact ⟨k + 1, _, HLT.out, by simp, rfl⟩
        case measure => have := HLT.out; simp [intOf]; omega
    · obtain rfl : k = K.length := by omega
      have j1 : decide ((K.length : Int) < (K.length : Int)) = false := by rw [decide_eq_false_iff_not]; omega
      go_wp2_with fail
      go_loopw [8] (fun i wr => ∃ k m : Nat, k ≤ vars.length ∧ i = .int .i64 k ∧ wr = W.drewN m) (fun i _ => vars.length - (intOf i).toNat)
      case atStart => exact ⟨0, _, Nat.zero_le _, rfl, rfl⟩
      case round =>
        obtain ⟨k, m, hk, rfl, rfl⟩ := hrel
        by_cases hlt : k < vars.length
        · obtain ⟨b, o, rfl, hcell⟩ := HAXW.out (by intro h; subst h; simp at hlt)
          have d0 := hcell k hlt
          have d0' : (W.drewN m).cell? ⟨b, o + k, none⟩ = some (.int .i64 vars[k]) := d0
          have hbl := lt_of_cell d0
          have j1 : decide ((k : Int) < (vars.length : Int)) = true := by rw [decide_eq_true_iff]; omega
          have j1n : decide (k < vars.length) = true := decide_eq_true hlt
          have j2 : (0 : Int) ≤ (k : Int) := by omega
          have j3 : IntKind.i64.wrap ((k : Int) + 1) = ((k + 1 : Nat) : Int) := by have := H1.out; rw [IntWalk.i64_in _ (by omega)]; omega
          have HM : Hid (∀ n : Nat, writerL L vars[k] 9223372036854775807 = (n : Int) → n ∈ K) := hid (fun n h => HMR.out vars[k] (List.getElem_mem hlt) n (by rw [← writerL_top HOK.out]; exact h))
          have HLT := hid hlt
          clear hcell
          generalize vars[k]'hlt = x at *
          have HC := hid (HLAST.out m x 9223372036854775807)
          generalize writerL L x 9223372036854775807 = q at HC HM
          by_cases hq : (0 : Int) ≤ q
          · obtain ⟨n, rfl⟩ : ∃ n : Nat, q = (n : Int) := ⟨q.toNat, by omega⟩
            have HI : Hid (∀ m, Calls Try.prog 9 #[.slice a3 K.length k3, .int .i64 (n : Int)] (W.drewN m) fun e' w' => e' = .returned (.bool true) ∧ w' = W.drewN m) := hid (fun m => by have := HIN.out m n; rwa [decide_eq_true (HM.out n rfl)] at this)
            go_wp2_with fail
            refine HC.out.mono ?_
            rintro e' w5 ⟨rfl, m5, rfl⟩
            rw [World.drewN_drewN]
            go_wp2_with fail
            refine (HI.out _).mono ?_
            rintro e' w6 ⟨rfl, rfl⟩
            go_wp2_with fail
            go_roundw
            case rel => exact ⟨k + 1, _, HLT.out, by simp, rfl⟩
            case measure => have := HLT.out; simp [intOf]; omega
          · have hq' : decide ((0 : Int) ≤ q) = false := decide_eq_false hq
            go_wp2_with fail
            refine HC.out.mono ?_
            rintro e' w5 ⟨rfl, m5, rfl⟩
            rw [World.drewN_drewN]
            go_wp2_with fail
            go_roundw
            case rel => exact ⟨k + 1, _, HLT.out, by simp, rfl⟩
            case measure => have := HLT.out; simp [intOf]; omega
        · obtain rfl : k = vars.length := by omega
          have j1 : decide ((vars.length : Int) < (vars.length : Int)) = false := by rw [decide_eq_false_iff_not]; omega
          go_wp2_with fail
          go_loopw [10] (fun i wr => ∃ k m : Nat, k ≤ L.length ∧ i = .int .i64 k ∧ wr = W.drewN m) (fun i _ => L.length - (intOf i).toNat)
          case atStart => exact ⟨0, _, Nat.zero_le _, rfl, rfl⟩
          case round =>
            obtain ⟨i, m, hk, rfl, rfl⟩ := hrel
            have cWm : (W.drewN m).cell? ⟨w.heap.size, 0, none⟩ = some (.slice al L.length cl) := cW
            by_cases hil : i < L.length
            · obtain ⟨b, o, rfl, hcell⟩ := HLXW.out (by intro h; subst h; simp at hil)
              obtain ⟨r, u, hc⟩ := hcell i hil
              obtain ⟨ar, cr, hr⟩ := hc.reads.shape
              subst hr
              have j1 : decide ((i : Int) < (L.length : Int)) = true := by rw [decide_eq_true_iff]; omega
              have j1n : decide (i < L.length) = true := decide_eq_true hil
              have j2 : (0 : Int) ≤ (i : Int) := by omega
              have j3 : IntKind.i64.wrap ((i : Int) + 1) = ((i + 1 : Nat) : Int) := by have := H60.out; rw [IntWalk.i64_in _ (by omega)]; omega
              have d0 := hc.c0
              have d1 := hc.c1
              have d3 := hc.c3
              have d4 := hc.c4
              have d5 := hc.c5
              have d7 := hc.c7
              have d0' : (W.drewN m).cell? ⟨b, o + i * 9, none⟩ = _ := d0
              have d5' : (W.drewN m).cell? ⟨b, o + i * 9 + 5, none⟩ = _ := d5
              have d3' : (W.drewN m).cell? ⟨b, o + i * 9 + 3, none⟩ = _ := d3
              have hbl := lt_of_cell d0
              have HRD := hid hc.reads
              have HIL := hid hil
              have HRL : Hid (L[i].reads.length ≤ 1000000000) := hid (HWL.out _ (List.getElem_mem hil)).1
              have HM1 : Hid (i ∉ K → openB L[i] = false) := hid (fun h => by
                cases h' : openB L[i] with
                | false => rfl
                | true => exact absurd (HMO.out i hil h') h)
              have HM2 : Hid (i ∈ K → ∀ m n : Nat, ∀ hm : m < L[i].reads.length, writerL L L[i].reads[m].1 L[i].rv = (n : Int) → n ∈ K) := hid (fun h m n hm e => HMD.out i m n hil h hm e)
              have HM3 : Hid (i ∈ K → ∀ k : Nat, ∀ hk : k < L.length, beforeB L[i] L[k] = true → k ∈ K) := hid (fun h k hk e => HMB.out i k hil h hk e)
              have HCL : Hid (∀ k (h : k < L.length), W.cell? ⟨b, o + k * 9, none⟩ = some (.int .i64 L[k].th) ∧ W.cell? ⟨b, o + k * 9 + 1, none⟩ = some (.int .i64 L[k].tx) ∧ W.cell? ⟨b, o + k * 9 + 6, none⟩ = some (.bool L[k].com)) := hid (fun k h => by
                obtain ⟨r', u', h'⟩ := hcell k h
                exact ⟨h'.c0, h'.c1, h'.c6⟩)
              clear hc hcell
              generalize hA : L[i]'hil = A at d0 d1 d3 d4 d5 d7 d0' d5' d3' HRD HRL HM1 HM2 HM3
              by_cases hin : i ∈ K
              · have hIN := HIN.out m i
                rw [decide_eq_true hin] at hIN
                have HI := hid hIN
                have HN2 := hid (HM2.out hin)
                have HN3 := hid (HM3.out hin)
                clear hIN hin
                go_wp2_with fail
                refine HI.out.mono ?_
                rintro e' w6 ⟨rfl, rfl⟩
                go_wp2_with fail
                have HINw : Hid (∀ (w' : World) (k : Nat), (∃ m, w' = W.drewN m) → k ∈ K → Calls Try.prog 9 #[.slice a3 K.length k3, .int .i64 (k : Int)] w' fun e w'' => e = .returned (.bool true) ∧ w'' = w') := hid (fun w' k h hk => by
                  obtain ⟨m, rfl⟩ := h
                  have := HIN.out m k
                  rwa [decide_eq_true hk] at this)
                have HLASTw : Hid (∀ (w' : World) (v most : Int), (∃ m, w' = W.drewN m) → Calls Try.prog 8 #[.int .i64 v, .int .i64 most, .pointer (some ⟨w.heap.size, 0, none⟩)] w' fun e w'' => e = .returned (.int .i64 (writerL L v most)) ∧ ∃ m, w'' = w'.drewN m) := hid (fun w' v most h => by
                  obtain ⟨m, rfl⟩ := h
                  exact HLAST.out m v most)
                clear HI d0' d5' d3' cWm
                go_loopw [11] (fun i wr => ∃ k : Nat, k ≤ A.reads.length ∧ i = .int .i64 k ∧ Hid (∃ m, wr = W.drewN m)) (fun i _ => A.reads.length - (intOf i).toNat)
                case atStart => exact ⟨0, Nat.zero_le _, rfl, hid ⟨_, rfl⟩⟩
                case round =>
                  obtain ⟨k, hk, rfl, HWQ⟩ := hrel
                  have cV : wr.cell? ⟨w.heap.size, 0, none⟩ = some (.slice (some ⟨b, o, none⟩) L.length cl) := by obtain ⟨m, rfl⟩ := HWQ.out; exact cW
                  have e7 : wr.cell? ⟨b, o + i * 9 + 7, none⟩ = some (.slice ar A.reads.length cr) := by obtain ⟨m, rfl⟩ := HWQ.out; exact d7
                  have e4 : wr.cell? ⟨b, o + i * 9 + 4, none⟩ = some (.int .i64 A.rv) := by obtain ⟨m, rfl⟩ := HWQ.out; exact d4
                  by_cases hkl : k < A.reads.length
                  · obtain ⟨_, _, hsl, _, _, hrx⟩ := HRD.out
                    cases hsl
                    obtain ⟨gr, og, rfl, hrc⟩ := hrx (by intro h; rw [h] at hkl; simp at hkl)
                    have p0 : wr.cell? ⟨gr, og + k * 2, none⟩ = some (.int .i64 A.reads[k].1) := by obtain ⟨m, rfl⟩ := HWQ.out; exact (hrc k hkl).1
                    have l0 := lt_of_cell p0
                    have l1 := lt_of_cell e7
                    have l2 := lt_of_cell cV
                    have i1 : decide ((k : Int) < (A.reads.length : Int)) = true := by rw [decide_eq_true_iff]; omega
                    have i1n : decide (k < A.reads.length) = true := decide_eq_true hkl
                    have i2 : (0 : Int) ≤ (k : Int) := by omega
                    have i3 : IntKind.i64.wrap ((k : Int) + 1) = ((k + 1 : Nat) : Int) := by have := HRL.out; rw [IntWalk.i64_in _ (by omega)]; omega
                    have HNK : Hid (∀ n : Nat, writerL L A.reads[k].1 A.rv = (n : Int) → n ∈ K) := hid (fun n h => HN2.out k n hkl h)
                    have HLV : Hid (∀ n, Calls Try.prog 8 #[.int .i64 A.reads[k].1, .int .i64 A.rv, .pointer (some ⟨w.heap.size, 0, none⟩)] (wr.drewN n) fun e w'' => e = .returned (.int .i64 (writerL L A.reads[k].1 A.rv)) ∧ ∃ m, w'' = (wr.drewN n).drewN m) := hid (fun n => HLASTw.out _ _ _ (by obtain ⟨m, rfl⟩ := HWQ.out; exact ⟨_, World.drewN_drewN _ _ _⟩))
                    have HKL2 := hid hkl
                    clear hrc hrx
                    generalize A.reads[k].1 = xr at *
                    generalize writerL L xr A.rv = q at HNK HLV
                    by_cases hq : (0 : Int) ≤ q
                    · obtain ⟨n, rfl⟩ : ∃ n : Nat, q = (n : Int) := ⟨q.toNat, by omega⟩
                      have HIV : Hid (∀ n', Calls Try.prog 9 #[.slice a3 K.length k3, .int .i64 (n : Int)] (wr.drewN n') fun e w'' => e = .returned (.bool true) ∧ w'' = wr.drewN n') := hid (fun n' => HINw.out _ n (by obtain ⟨m, rfl⟩ := HWQ.out; exact ⟨_, World.drewN_drewN _ _ _⟩) (HNK.out n rfl))
                      go_wp2_with fail
                      go_quiet ((go_at_call 8; exact Calls.quiet_of (HLV.out _)))
                      go_wp2_with fail
                      refine (HIV.out _).mono ?_
                      rintro e' w7 ⟨rfl, rfl⟩
                      go_wp2_with fail
                      go_roundw
                      case rel => exact ⟨k + 1, HKL2.out, by simp, hid (by obtain ⟨m, rfl⟩ := HWQ.out; exact ⟨_, World.drewN_drewN _ _ _⟩)⟩
                      case measure => have := HKL2.out; simp [intOf]; omega
                    · have hq' : decide ((0 : Int) ≤ q) = false := decide_eq_false hq
                      go_wp2_with fail
                      go_quiet ((go_at_call 8; exact Calls.quiet_of (HLV.out _)))
                      go_wp2_with fail
                      go_roundw
                      case rel => exact ⟨k + 1, HKL2.out, by simp, hid (by obtain ⟨m, rfl⟩ := HWQ.out; exact ⟨_, World.drewN_drewN _ _ _⟩)⟩
                      case measure => have := HKL2.out; simp [intOf]; omega
                  · obtain rfl : k = A.reads.length := by omega
                    have i1 : decide ((A.reads.length : Int) < (A.reads.length : Int)) = false := by rw [decide_eq_false_iff_not]; omega
                    go_wp2_with fail
                    clear cV e7 e4 i1
                    go_loopw [13] (fun i wr => ∃ k : Nat, k ≤ L.length ∧ i = .int .i64 k ∧ Hid (∃ m, wr = W.drewN m)) (fun i _ => L.length - (intOf i).toNat)
                    case atStart => exact ⟨0, Nat.zero_le _, rfl, HWQ⟩
                    case round =>
                      clear HWQ
                      obtain ⟨k, hk, rfl, HWQ⟩ := hrel
                      have cV : wr.cell? ⟨w.heap.size, 0, none⟩ = some (.slice (some ⟨b, o, none⟩) L.length cl) := by obtain ⟨m, rfl⟩ := HWQ.out; exact cW
                      have e0 : wr.cell? ⟨b, o + i * 9, none⟩ = some (.int .i64 A.th) := by obtain ⟨m, rfl⟩ := HWQ.out; exact d0
                      have e1 : wr.cell? ⟨b, o + i * 9 + 1, none⟩ = some (.int .i64 A.tx) := by obtain ⟨m, rfl⟩ := HWQ.out; exact d1
                      have l2 := lt_of_cell cV
                      have l1 := lt_of_cell e0
                      by_cases hkl : k < L.length
                      · obtain ⟨f0, f1, f6⟩ := HCL.out k hkl
                        have f0 : wr.cell? ⟨b, o + k * 9, none⟩ = some (.int .i64 L[k].th) := by obtain ⟨m, rfl⟩ := HWQ.out; exact f0
                        have f1 : wr.cell? ⟨b, o + k * 9 + 1, none⟩ = some (.int .i64 L[k].tx) := by obtain ⟨m, rfl⟩ := HWQ.out; exact f1
                        have f6 : wr.cell? ⟨b, o + k * 9 + 6, none⟩ = some (.bool L[k].com) := by obtain ⟨m, rfl⟩ := HWQ.out; exact f6
                        have i1 : decide ((k : Int) < (L.length : Int)) = true := by rw [decide_eq_true_iff]; omega
                        have i1n : decide (k < L.length) = true := decide_eq_true hkl
                        have i2 : (0 : Int) ≤ (k : Int) := by omega
                        have i3 : IntKind.i64.wrap ((k : Int) + 1) = ((k + 1 : Nat) : Int) := by have := H60.out; rw [IntWalk.i64_in _ (by omega)]; omega
                        have HBF : Hid ((L[k].com && decide (L[k].th = A.th) && decide (L[k].tx < A.tx)) = true → k ∈ K) := hid (fun h => HN3.out k hkl h)
                        have HKL2 := hid hkl
                        have HND := hid (fun nq => show ∃ m, wr.drewN nq = W.drewN m by obtain ⟨m, rfl⟩ := HWQ.out; exact ⟨_, World.drewN_drewN _ _ _⟩)
                        generalize L[k].com = cm at *
                        generalize L[k].th = cth at *
                        generalize L[k].tx = ctx at *
                        cases cm
                        · go_wp2_with fail
                          go_quiet (fail)
                          go_wp2_with fail
                          go_roundw
                          case rel => exact ⟨k + 1, HKL2.out, by simp, hid (HND.out _)⟩
                          case measure => have := HKL2.out; simp [intOf]; omega
                        · by_cases h1 : cth = A.th
                          · subst h1
                            by_cases h2 : ctx < A.tx
                            · have HIV : Hid (∀ n', Calls Try.prog 9 #[.slice a3 K.length k3, .int .i64 (k : Int)] (wr.drewN n') fun e w'' => e = .returned (.bool true) ∧ w'' = wr.drewN n') := hid (fun n' => HINw.out _ k (HND.out n') (HBF.out (by simp [h2])))
                              go_wp2_with fail
                              go_quiet ((go_at_call 9; exact Calls.quiet_of_same (HIV.out _)))
                              go_wp2_with fail
                              go_roundw
                              case rel => exact ⟨k + 1, HKL2.out, by simp, hid (HND.out _)⟩
                              case measure => have := HKL2.out; simp [intOf]; omega
                            · have h2' : decide (ctx < A.tx) = false := decide_eq_false h2
                              go_wp2_with fail
                              go_quiet (fail)
                              go_wp2_with fail
                              go_roundw
                              case rel => exact ⟨k + 1, HKL2.out, by simp, hid (HND.out _)⟩
                              case measure => have := HKL2.out; simp [intOf]; omega
                          · have h1' : (cth == A.th) = false := beq_eq_false_iff_ne.2 h1
                            go_wp2_with fail
                            go_quiet (fail)
                            go_wp2_with fail
                            go_roundw
                            case rel => exact ⟨k + 1, HKL2.out, by simp, hid (HND.out _)⟩
                            case measure => have := HKL2.out; simp [intOf]; omega
                      · obtain rfl : k = L.length := by omega
                        have i1 : decide ((L.length : Int) < (L.length : Int)) = false := by rw [decide_eq_false_iff_not]; omega
                        obtain ⟨mm, hmm⟩ := HWQ.out
                        have HMM := hid hmm
                        clear hmm
                        go_wp2_with fail
                        go_roundw
                        case rel => exact ⟨i + 1, mm, HIL.out, by simp, HMM.out⟩
                        case measure => have := HIL.out; simp [intOf]; omega
              · have hIN := HIN.out m i
                rw [decide_eq_false hin] at hIN
                have HI := hid hIN
                have HO : Hid ((decide (0 < A.wv) && decide (A.to_ = -1)) = false) := hid (HM1.out hin)
                clear hIN hin
                go_wp2_with fail
                refine HI.out.mono ?_
                rintro e' w6 ⟨rfl, rfl⟩
                generalize A.wv = X at *
                generalize A.to_ = T at *
                by_cases h1 : (0 : Int) < X
                · have h2 : ¬ T = -1 := by
                    have := HO.out
                    rw [decide_eq_true h1] at this
                    simpa using this
                  have g2 : (T == -1) = false := beq_eq_false_iff_ne.2 h2
                  go_wp2_with fail
                  go_roundw
                  case rel => exact ⟨i + 1, _, HIL.out, by simp, rfl⟩
                  case measure => have := HIL.out; simp [intOf]; omega
                · have h1' : decide ((0 : Int) < X) = false := decide_eq_false h1
                  go_wp2_with fail
                  go_roundw
                  case rel => exact ⟨i + 1, _, HIL.out, by simp, rfl⟩
                  case measure => have := HIL.out; simp [intOf]; omega
            · obtain rfl : i = L.length := by omega
              have j1 : decide ((L.length : Int) < (L.length : Int)) = false := by rw [decide_eq_false_iff_not]; omega
              go_wp2_with fail
              go_ret
              exact ⟨rfl, ext_drewN HB3.out _⟩
end Go.Proofs.Ytcdgfnocjnampaa
