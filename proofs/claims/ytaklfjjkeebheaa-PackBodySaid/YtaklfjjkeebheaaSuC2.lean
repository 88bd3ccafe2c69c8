/-
  Walks: setup.Check.
-/
import Derived.Test.YtaklfjjkeebheaaSuC
namespace Go.Proofs.Ytaklfjjkeebheaa
set_option linter.unusedVariables false
set_option linter.unusedSimpArgs false
set_option linter.unusedVariables false
open Go Go.RowKit
theorem and_false_of {a b : Prop} [Decidable a] [Decidable b] (h : (decide a && decide b) = false) : ¬ (a ∧ b) := by
  rintro ⟨h1, h2⟩; simp [h1, h2] at h
theorem and_true_of {a b : Prop} [Decidable a] [Decidable b] (h : (decide a && decide b) = true) : a ∧ b := by simpa using h
set_option maxRecDepth 100000 in
set_option maxHeartbeats 4000000 in
theorem check_any (st ck tr : Int) (pi : Option Addr) (ni ci : Nat) (ths : List (List (List St))) (v : Value) (w : World) (hr : RdThs w ths v) (hok : ∀ th ∈ ths, okTh th) (hni : ni ≤ 9223372036854775807) :
    Calls Try.prog 16 #[.agg #[.int .i64 st, .int .i64 ck, .int .i64 tr, .slice pi ni ci, v]] w (CheckP st ck tr ni ths w) := by
  obtain ⟨a, cap, rfl, hlen, hx⟩ := hr
  have HX := hid hx; clear hx
  have HLN := hid hlen
  have HNI := hid hni
  have HOK := hid hok
  clear hok hni
  obtain ⟨b1, h1⟩ : ∃ b, (decide (1 ≤ (ni : Int)) && decide ((ni : Int) ≤ 32)) = b := ⟨_, rfl⟩
  obtain ⟨b2, h2⟩ : ∃ b, (decide (1 ≤ st) && decide (st ≤ (ni : Int))) = b := ⟨_, rfl⟩
  obtain ⟨b3, h3⟩ : ∃ b, (decide (0 ≤ ck) && decide (ck ≤ 1099511627776)) = b := ⟨_, rfl⟩
  obtain ⟨b4, h4⟩ : ∃ b, (decide (1 ≤ tr) && decide (tr ≤ 1000)) = b := ⟨_, rfl⟩
  have H1 := hid h1
  have H2 := hid h2
  have H3 := hid h3
  have H4 := hid h4
  have C1 := hid (within_any (ni : Int) 1 32 b1 h1)
  have C2 := hid (within_any st 1 (ni : Int) b2 h2)
  have C3 := hid (within_any ck 0 1099511627776 b3 h3)
  have C4 := hid (within_any tr 1 1000 b4 h4)
  clear h1 h2 h3 h4
  cases b1 with
  | false =>
    have HF : Hid (¬ GoodS st ck tr ni ths) := hid fun g => and_false_of H1.out ⟨by have := g.1.n0; omega, by have := g.1.n0; omega⟩
    clear H1 H2 H3 H4 C2 C3 C4
    go_enter Try.func16, Try.ntmps16
    go_wp2_with fail
    refine (C1.out _).mono ?_
    rintro e w1 ⟨rfl, rfl⟩
    go_wp2_with fail
    go_ret
    exact ⟨.inr ⟨rfl, HF.out⟩, ext_alloc (ext_refl _) _⟩
  | true =>
  cases b2 with
  | false =>
    have HF : Hid (¬ GoodS st ck tr ni ths) := hid fun g => and_false_of H2.out g.1.s0
    clear H1 H2 H3 H4 C3 C4
    go_enter Try.func16, Try.ntmps16
    go_wp2_with fail
    refine (C1.out _).mono ?_
    rintro e w1 ⟨rfl, rfl⟩
    go_wp2_with fail
    refine (C2.out _).mono ?_
    rintro e w1 ⟨rfl, rfl⟩
    go_wp2_with fail
    go_ret
    exact ⟨.inr ⟨rfl, HF.out⟩, ext_alloc (ext_refl _) _⟩
  | true =>
  cases b3 with
  | false =>
    have HF : Hid (¬ GoodS st ck tr ni ths) := hid fun g => and_false_of H3.out g.1.c0
    clear H1 H2 H3 H4 C4
    go_enter Try.func16, Try.ntmps16
    go_wp2_with fail
    refine (C1.out _).mono ?_
    rintro e w1 ⟨rfl, rfl⟩
    go_wp2_with fail
    refine (C2.out _).mono ?_
    rintro e w1 ⟨rfl, rfl⟩
    go_wp2_with fail
    refine (C3.out _).mono ?_
    rintro e w1 ⟨rfl, rfl⟩
    go_wp2_with fail
    go_ret
    exact ⟨.inr ⟨rfl, HF.out⟩, ext_alloc (ext_refl _) _⟩
  | true =>
  cases b4 with
  | false =>
    have HF : Hid (¬ GoodS st ck tr ni ths) := hid fun g => and_false_of H4.out g.1.t0
    clear H1 H2 H3 H4
    go_enter Try.func16, Try.ntmps16
    go_wp2_with fail
    refine (C1.out _).mono ?_
    rintro e w1 ⟨rfl, rfl⟩
    go_wp2_with fail
    refine (C2.out _).mono ?_
    rintro e w1 ⟨rfl, rfl⟩
    go_wp2_with fail
    refine (C3.out _).mono ?_
    rintro e w1 ⟨rfl, rfl⟩
    go_wp2_with fail
    refine (C4.out _).mono ?_
    rintro e w1 ⟨rfl, rfl⟩
    go_wp2_with fail
    go_ret
    exact ⟨.inr ⟨rfl, HF.out⟩, ext_alloc (ext_refl _) _⟩
  | true =>
  have HGN : Hid (ths.length ≤ 6 → GoodN st ck tr ni ths.length) := hid fun h => ⟨by have := and_true_of H1.out; omega, and_true_of H2.out, and_true_of H3.out, and_true_of H4.out, h⟩
  clear H1 H2 H3 H4
  by_cases h5 : 6 < ths.length
  · have k5 : decide (6 < (ths.length : Int)) = true := decide_eq_true (by omega)
    have k5n : decide (6 < ths.length) = true := decide_eq_true h5
    have HF : Hid (¬ GoodS st ck tr ni ths) := hid fun g => by have := g.1.l0; omega
    go_enter Try.func16, Try.ntmps16
    go_wp2_with fail
    refine (C1.out _).mono ?_
    rintro e w1 ⟨rfl, rfl⟩
    go_wp2_with fail
    refine (C2.out _).mono ?_
    rintro e w1 ⟨rfl, rfl⟩
    go_wp2_with fail
    refine (C3.out _).mono ?_
    rintro e w1 ⟨rfl, rfl⟩
    go_wp2_with fail
    refine (C4.out _).mono ?_
    rintro e w1 ⟨rfl, rfl⟩
    go_wp2_with fail
    go_ret
    exact ⟨.inr ⟨rfl, HF.out⟩, ext_alloc (ext_refl _) _⟩
  have k5 : decide (6 < (ths.length : Int)) = false := decide_eq_false (by omega)
  have k5n : decide (6 < ths.length) = false := decide_eq_false h5
  have HGG := hid (HGN.out (by omega))
  clear HGN h5
  go_enter Try.func16, Try.ntmps16
  go_wp2_with fail
  refine (C1.out _).mono ?_
  rintro e w1 ⟨rfl, rfl⟩
  go_wp2_with fail
  refine (C2.out _).mono ?_
  rintro e w1 ⟨rfl, rfl⟩
  go_wp2_with fail
  refine (C3.out _).mono ?_
  rintro e w1 ⟨rfl, rfl⟩
  go_wp2_with fail
  refine (C4.out _).mono ?_
  rintro e w1 ⟨rfl, rfl⟩
  go_wp2_with fail
  go_loopw [47] (fun i wr => ∃ k : Nat, k ≤ ths.length ∧ i = .int .i64 k ∧ Hid (∀ th ∈ ths.take k, GoodTh th) ∧ Below w.heap.size w wr) (fun i _ => ths.length - (intOf i).toNat)
  case atStart => exact ⟨0, Nat.zero_le _, rfl, hid (fun s hs => by simp at hs), ext_alloc (ext_refl _) _⟩
  case round =>
    obtain ⟨k, hk, rfl, HM, hb⟩ := hrel
    by_cases hlt : k < ths.length
    · obtain ⟨q, off, rfl, hrd⟩ := HX.out (by intro h; subst h; simp at hlt)
      obtain ⟨vt, e0, ht⟩ := RdRow.get ths hrd k hlt
      have HRT := hid (RdTh.below hb ht)
      obtain ⟨pt, ct, rfl, hlt', hxt⟩ := ht
      have d0 := later hb e0
      have hbl := lt_of_cell d0
      have HLT := hid hlt
      have HB := hid hb
      have HOT := hid (HOK.out _ (List.getElem_mem hlt))
      have HIN : Hid (ths[k]'hlt ∈ ths) := hid (List.getElem_mem hlt)
      have HTS : Hid (GoodTh (ths[k]'hlt) → ∀ x ∈ ths.take (k + 1), GoodTh x) := hid (all_take_succ hlt HM.out)
      have j1 : decide ((k : Int) < (ths.length : Int)) = true := by rw [decide_eq_true_iff]; omega
      have j1n : decide (k < ths.length) = true := decide_eq_true hlt
      have j2 : (0 : Int) ≤ (k : Int) := by omega
      have j3 : IntKind.i64.wrap ((k : Int) + 1) = (k : Int) + 1 := IntWalk.i64_in _ (by omega)
      have HLT' := hid hlt'
      clear hrd e0 hb hxt hlt'
      generalize ths[k]'hlt = th at *
      by_cases h6 : 6 < th.length
      · have k6 : decide (6 < (th.length : Int)) = true := decide_eq_true (by omega)
        have k6n : decide (6 < th.length) = true := decide_eq_true h6
        have HF : Hid (¬ GoodS st ck tr ni ths) := hid fun g => by have := (g.2 _ HIN.out).1; omega
        clear h6
        have hf := HB.out
        go_wp2_with fail
        go_ret
        exact ⟨.inr ⟨rfl, HF.out⟩, hf⟩
      have k6 : decide (6 < (th.length : Int)) = false := decide_eq_false (by omega)
      have k6n : decide (6 < th.length) = false := decide_eq_false h6
      have H6 := hid h6
      clear h6
      go_wp2_with fail
      go_loopw [56] (fun i wr => ∃ j : Nat, j ≤ th.length ∧ i = .int .i64 j ∧ Hid (∀ i (h : i < th.length), i < j → mayT th[i] (i : Int) = true) ∧ Below w.heap.size w wr ∧ Hid (RdTh wr th (.slice pt th.length ct))) (fun i _ => th.length - (intOf i).toNat)
      case atStart => exact ⟨0, Nat.zero_le _, rfl, hid (fun i _ h => by omega), HB.out, HRT⟩
      case round =>
        clear d0 hbl HB HRT
        obtain ⟨j, hj, rfl, HJ, hb, HRT⟩ := hrel
        by_cases hlj : j < th.length
        · obtain ⟨pt', ct', hpt, -, hxt⟩ := HRT.out
          cases hpt
          obtain ⟨q', off', rfl, hrd'⟩ := hxt (by intro h; subst h; simp at hlj)
          obtain ⟨vx, e0', htx⟩ := RdRow.get th hrd' j hlj
          have HTX := hid htx
          obtain ⟨px, cx, rfl, -, -⟩ := htx
          have hbl' := lt_of_cell e0'
          have HLJ := hid hlj
          have HB := hid hb
          have HOX := hid (HOT.out.2 _ (List.getElem_mem hlj))
          have HJS : Hid (mayT (th[j]'hlj) (j : Int) = true → ∀ i (h : i < th.length), i < j + 1 → mayT th[i] (i : Int) = true) := hid (fun hm i h hi => by
            by_cases e : i < j
            · exact HJ.out i h e
            · obtain rfl : i = j := by omega
              exact hm)
          have HJN : Hid (mayT (th[j]'hlj) (j : Int) = false → ¬ GoodS st ck tr ni ths) := hid (fun hm g => by
            have := (g.2 _ HIN.out).2 j hlj
            rw [hm] at this; cases this)
          have i1 : decide ((j : Int) < (th.length : Int)) = true := by rw [decide_eq_true_iff]; omega
          have i1n : decide (j < th.length) = true := decide_eq_true hlj
          have i2 : (0 : Int) ≤ (j : Int) := by omega
          have i3 : IntKind.i64.wrap ((j : Int) + 1) = (j : Int) + 1 := IntWalk.i64_in _ (by have := HLT'.out; omega)
          clear hxt hrd' hb
          generalize th[j]'hlj = tx at *
          go_wp2_with fail
          refine (tmay_any tx _ (j : Int) _ HTX.out HOX.out).mono ?_
          rintro e w1 ⟨rfl, hb1⟩
          have HB1 := hid (ext_trans HB.out hb1)
          have HRT1 := hid (RdTh.below hb1 HRT.out)
          clear hb1 e0' hbl' HRT
          obtain ⟨qm, hqm⟩ : ∃ qm, mayT tx (j : Int) = qm := ⟨_, rfl⟩
          rw [hqm] at HJS HJN ⊢
          cases qm with
          | false =>
            have HF := hid (HJN.out rfl)
            have hf := HB1.out
            clear hqm
            go_wp2_with fail
            go_ret
            exact ⟨.inr ⟨rfl, HF.out⟩, hf⟩
          | true =>
            have HJ1 := hid (HJS.out rfl)
            clear hqm
            go_wp2_with fail
            go_roundw
            case rel => exact ⟨j + 1, HLJ.out, by go_num, HJ1, HB1.out, HRT1⟩
            case measure => have := HLJ.out; simp [intOf]; omega
        · obtain rfl : j = th.length := by omega
          have i1 : decide ((th.length : Int) < (th.length : Int)) = false := by rw [decide_eq_false_iff_not]; omega
          have HB := hid hb
          have HF : Hid (∀ x ∈ ths.take (k + 1), GoodTh x) := hid (HTS.out ⟨by have := H6.out; omega, fun i h => HJ.out i h h⟩)
          go_wp2_with fail
          go_roundw
          case rel => exact ⟨k + 1, HLT.out, by go_num, HF, HB.out⟩
          case measure => have := HLT.out; simp [intOf]; omega
    · obtain rfl : k = ths.length := by omega
      have j1 : decide ((ths.length : Int) < (ths.length : Int)) = false := by rw [decide_eq_false_iff_not]; omega
      have HF : Hid (GoodS st ck tr ni ths) := hid ⟨HGG.out, by have := HM.out; rwa [List.take_length] at this⟩
      go_wp2_with fail
      go_ret
      exact ⟨.inl ⟨rfl, HF.out⟩, hb⟩
end Go.Proofs.Ytaklfjjkeebheaa
