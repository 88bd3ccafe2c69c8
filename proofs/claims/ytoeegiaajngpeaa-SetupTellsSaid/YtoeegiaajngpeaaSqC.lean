/-
  Walks: the document's Cost and Check of setups (printed by tools/gen_sqc.py).
-/
import Derived.Test.YtoeegiaajngpeaaCqS
import Derived.Test.YtoeegiaajngpeaaSuC3
import Derived.Test.YtoeegiaajngpeaaSuC2
namespace Go.Proofs.Ytoeegiaajngpeaa
set_option linter.unusedVariables false
set_option linter.unusedSimpArgs false
set_option linter.unusedVariables false
open Go Go.RowKit
set_option maxRecDepth 100000 in
set_option maxHeartbeats 4000000 in
theorem rscost_any (st ck tr : Int) (pi : Option Addr) (ni ci : Nat) (ths : List (List (List St))) (v : Value) (w : World) (hr : RdThs w ths v) :
    Calls Try.prog 15 #[.agg #[.int .i64 st, .int .i64 ck, .int .i64 tr, .slice pi ni ci, v]] w fun e' w' => e' = .returned (.int .i64 (costThs ths : Nat)) ∧ Below w.heap.size w w' := by
  have HRS := hid hr
  obtain ⟨a, cap, rfl, hlen, hx⟩ := hr
  have HX := hid hx; clear hx
  obtain ⟨W1, hW1⟩ : ∃ W1, W1 = w.alloc (.cells #[.int .i64 st, .int .i64 ck, .int .i64 tr, .slice pi ni ci, .slice a ths.length cap] 25) := ⟨_, rfl⟩
  have HW1 := hid hW1
  have HX1 : Hid (Blk W1 w.heap.size #[.int .i64 st, .int .i64 ck, .int .i64 tr, .slice pi ni ci, .slice a ths.length cap] 25) := hid (by rw [hW1]; exact Blk.new _ _ _)
  have HB1 : Hid (Below w.heap.size w W1) := hid (by rw [hW1]; exact ext_alloc (ext_refl _) _)
  clear hW1
  go_enter Try.func15, Try.ntmps15
  go_wp2_with fail
  rw [← HW1.out]
  go_loopw [3, 4] (fun n i wr => ∃ (k : Nat), k ≤ ths.length ∧ i = .int .i64 k ∧ n = .int .i64 (costThs (ths.take k) : Nat) ∧ Hid (Blk wr w.heap.size #[.int .i64 st, .int .i64 ck, .int .i64 tr, .slice pi ni ci, .slice a ths.length cap] 25) ∧ Hid (Below w.heap.size w wr)) (fun _ i _ => ths.length - (intOf i).toNat)
  case atStart => exact ⟨0, Nat.zero_le _, rfl, by simp [costThs], HX1, HB1⟩
  case round =>
      clear HX1 HB1 HW1
      obtain ⟨wo, rfl⟩ : ∃ wo, wo = wr := ⟨_, rfl⟩
      obtain ⟨k, hk, rfl, rfl, HXW, HBW⟩ := hrel
      have e4 := HXW.out.cell 4 (v := .slice a ths.length cap) rfl
      have hbl := HXW.out.lt
      by_cases hlt : k < ths.length
      · obtain ⟨q, off, rfl, hrd⟩ := HX.out (by intro h; subst h; simp at hlt)
        obtain ⟨vt, g0, ht⟩ := RdRow.get ths hrd k hlt
        have HRT := hid ht
        obtain ⟨pt, ct, rfl, hlt', hxt⟩ := ht
        have HE0 := hid g0
        have d0 := later HBW.out g0
        have hbq := lt_of_cell d0
        have HLT := hid hlt
        have HXT := hid hxt
        have HLT' := hid hlt'
        have j1 : decide ((k : Int) < (ths.length : Int)) = true := by rw [decide_eq_true_iff]; omega
        have j1n : decide (k < ths.length) = true := decide_eq_true hlt
        have j2 : (0 : Int) ≤ (k : Int) := by omega
        have j2n : (k : Int) < (ths.length : Int) := by omega
        have j3 : IntKind.i64.wrap ((k : Int) + 1) = (k : Int) + 1 := IntWalk.i64_in _ (by omega)
        have HC := hid (costThs_take ths k hlt)
        clear hrd g0 hxt hlt'
        generalize ths[k]'hlt = th at *
        generalize costThs (ths.take k) = m0 at *
        go_wp2_with fail
        go_loopw [3, 5] (fun n i wx => ∃ (j : Nat), j ≤ th.length ∧ i = .int .i64 j ∧ n = .int .i64 ((max m0 (costTh (th.take j)) : Nat) : Int) ∧ Hid (Blk wx w.heap.size #[.int .i64 st, .int .i64 ck, .int .i64 tr, .slice pi ni ci, .slice (some ⟨q, off, none⟩) ths.length cap] 25) ∧ Hid (Below w.heap.size w wx)) (fun _ i _ => th.length - (intOf i).toNat)
        case atStart => exact ⟨0, Nat.zero_le _, rfl, by simp [costTh], HXW, HBW⟩
        case round =>
          clear e4 hbl d0 hbq HXW HBW
          obtain ⟨j, hj, rfl, rfl, HXX, HBX⟩ := hrel
          have e4 := HXX.out.cell 4 (v := .slice (some ⟨q, off, none⟩) ths.length cap) rfl
          have hbl := HXX.out.lt
          have d0 := later HBX.out HE0.out
          have hbq := lt_of_cell d0
          by_cases hlj : j < th.length
          · skip
            obtain ⟨q', off', rfl, hrd'⟩ := HXT.out (by intro h; subst h; simp at hlj)
            obtain ⟨vx, f0, htx⟩ := RdRow.get th hrd' j hlj
            have HTX := hid (htx.below HBX.out)
            obtain ⟨px, cx, rfl, -, -⟩ := htx
            have f0' := later HBX.out f0
            have hbf := lt_of_cell f0'
            have HLJ := hid hlj
            have i1 : decide ((j : Int) < (th.length : Int)) = true := by rw [decide_eq_true_iff]; omega
            have i1n : decide (j < th.length) = true := decide_eq_true hlj
            have i2 : (0 : Int) ≤ (j : Int) := by omega
            have i2n : (j : Int) < (th.length : Int) := by omega
            have i3 : IntKind.i64.wrap ((j : Int) + 1) = (j : Int) + 1 := IntWalk.i64_in _ (by have := HLT'.out; omega)
            have HCT := hid (costTh_take th j hlj)
            clear hrd' f0
            generalize th[j]'hlj = tx at *
            generalize costTh (th.take j) = mj at *
            have HCX := hid (fun (W : World) (h : Below wr.heap.size wr W) => rcostT_any (sizeT tx + 1) tx W _ (Nat.lt_succ_self _) (HTX.out.below h))
            go_wp2_with fail
            refine (HCX.out _ (ext_refl _)).mono ?_
            rintro e w5 ⟨rfl, hb5⟩
            have HX5 := hid (HXX.out.below hb5)
            have HB5 := hid (ext_trans HBX.out hb5)
            clear hb5 d0 e4 f0' hbl hbq hbf
            generalize costT 0 tx = c at *
            go_wp2_with fail
            all_goals (
              go_roundw
              case rel => exact ⟨j + 1, HLJ.out, by go_num, (by rw [HCT.out]; first | go_num | (congr 1; omega) | (congr 1; split <;> omega)), HX5, HB5⟩
              case measure => (have := HLJ.out; simp [intOf]; omega))
          · obtain rfl : j = th.length := by omega
            have i1 : decide ((th.length : Int) < (th.length : Int)) = false := by rw [decide_eq_false_iff_not]; omega
            have i1n : decide (th.length < th.length) = false := by simp
            have HTL : Hid (th.take th.length = th) := hid (List.take_length)
            rw [HTL.out]
            generalize costTh th = c at *
            go_wp2_with fail
            go_roundw
            case rel => exact ⟨k + 1, HLT.out, by go_num, (by rw [HC.out]), HXX, HBX⟩
            case measure => have := HLT.out; simp [intOf]; omega
      · obtain rfl : k = ths.length := by omega
        have j1 : decide ((ths.length : Int) < (ths.length : Int)) = false := by rw [decide_eq_false_iff_not]; omega
        have j1n : decide (ths.length < ths.length) = false := by simp
        have HTL : Hid (ths.take ths.length = ths) := hid (List.take_length)
        rw [HTL.out]
        go_wp2_with fail
        go_ret
        exact ⟨rfl, HBW.out⟩
set_option maxRecDepth 100000 in
set_option maxHeartbeats 4000000 in
theorem rcheck_any (st ck tr : Int) (pi : Option Addr) (ni ci : Nat) (ths : List (List (List St))) (v : Value) (w : World) (hr : RdThs w ths v) (hok : ∀ th ∈ ths, okTh th) :
    Calls Try.prog 13 #[.agg #[.int .i64 st, .int .i64 ck, .int .i64 tr, .slice pi ni ci, v]] w (CheckP st ck tr ni ths w) := by
  have HRS := hid hr
  obtain ⟨a, cap, rfl, hlen, hx⟩ := hr
  have HX := hid hx; clear hx
  obtain ⟨W1, hW1⟩ : ∃ W1, W1 = w.alloc (.cells #[.int .i64 st, .int .i64 ck, .int .i64 tr, .slice pi ni ci, .slice a ths.length cap] 25) := ⟨_, rfl⟩
  have HW1 := hid hW1
  have HX1 : Hid (Blk W1 w.heap.size #[.int .i64 st, .int .i64 ck, .int .i64 tr, .slice pi ni ci, .slice a ths.length cap] 25) := hid (by rw [hW1]; exact Blk.new _ _ _)
  have HB1 : Hid (Below w.heap.size w W1) := hid (by rw [hW1]; exact ext_alloc (ext_refl _) _)
  clear hW1
  have HOK := hid hok; clear hok
  have hbox : Below w.heap.size w (w.alloc (.cells #[.int .i64 st, .int .i64 ck, .int .i64 tr, .slice pi ni ci, .slice a ths.length cap] 25)) := ext_alloc (ext_refl _) _
  have HBOX := hid hbox
  clear hbox
  by_cases c0 : (ni : Int) < 1
  case pos =>
    have f0 : decide ((ni : Int) < 1) = true := decide_eq_true (by omega)
    have f0n : decide (ni < 1) = true := decide_eq_true (by omega)
    have HNG : Hid (¬ GoodS st ck tr ni ths) := hid (fun g => absurd c0 (by obtain ⟨g, -⟩ := g; have := g.n0; omega))
    clear c0
    go_enter Try.func13, Try.ntmps13
    go_wp2_with fail
    go_ret
    exact ⟨.inr ⟨rfl, HNG.out⟩, HBOX.out⟩
  have f0 : decide ((ni : Int) < 1) = false := decide_eq_false (by omega)
  have f0n : decide (ni < 1) = false := decide_eq_false (by omega)
  by_cases c1 : 32 < (ni : Int)
  case pos =>
    have f1 : decide (32 < (ni : Int)) = true := decide_eq_true (by omega)
    have f1n : decide (32 < ni) = true := decide_eq_true (by omega)
    have HNG : Hid (¬ GoodS st ck tr ni ths) := hid (fun g => absurd c1 (by obtain ⟨g, -⟩ := g; have := g.n0; omega))
    clear c1
    go_enter Try.func13, Try.ntmps13
    go_wp2_with fail
    go_ret
    exact ⟨.inr ⟨rfl, HNG.out⟩, HBOX.out⟩
  have f1 : decide (32 < (ni : Int)) = false := decide_eq_false (by omega)
  have f1n : decide (32 < ni) = false := decide_eq_false (by omega)
  by_cases c2 : st < 1
  case pos =>
    have f2 : decide (st < 1) = true := decide_eq_true (by omega)
    have HNG : Hid (¬ GoodS st ck tr ni ths) := hid (fun g => absurd c2 (by obtain ⟨g, -⟩ := g; have := g.s0; omega))
    clear c2
    go_enter Try.func13, Try.ntmps13
    go_wp2_with fail
    go_ret
    exact ⟨.inr ⟨rfl, HNG.out⟩, HBOX.out⟩
  have f2 : decide (st < 1) = false := decide_eq_false (by omega)
  by_cases c3 : (ni : Int) < st
  case pos =>
    have f3 : decide ((ni : Int) < st) = true := decide_eq_true (by omega)
    have HNG : Hid (¬ GoodS st ck tr ni ths) := hid (fun g => absurd c3 (by obtain ⟨g, -⟩ := g; have := g.s0; omega))
    clear c3
    go_enter Try.func13, Try.ntmps13
    go_wp2_with fail
    go_ret
    exact ⟨.inr ⟨rfl, HNG.out⟩, HBOX.out⟩
  have f3 : decide ((ni : Int) < st) = false := decide_eq_false (by omega)
  by_cases c4 : ck < 0
  case pos =>
    have f4 : decide (ck < 0) = true := decide_eq_true (by omega)
    have HNG : Hid (¬ GoodS st ck tr ni ths) := hid (fun g => absurd c4 (by obtain ⟨g, -⟩ := g; have := g.c0; omega))
    clear c4
    go_enter Try.func13, Try.ntmps13
    go_wp2_with fail
    go_ret
    exact ⟨.inr ⟨rfl, HNG.out⟩, HBOX.out⟩
  have f4 : decide (ck < 0) = false := decide_eq_false (by omega)
  by_cases c5 : 1099511627776 < ck
  case pos =>
    have f5 : decide (1099511627776 < ck) = true := decide_eq_true (by omega)
    have HNG : Hid (¬ GoodS st ck tr ni ths) := hid (fun g => absurd c5 (by obtain ⟨g, -⟩ := g; have := g.c0; omega))
    clear c5
    go_enter Try.func13, Try.ntmps13
    go_wp2_with fail
    go_ret
    exact ⟨.inr ⟨rfl, HNG.out⟩, HBOX.out⟩
  have f5 : decide (1099511627776 < ck) = false := decide_eq_false (by omega)
  by_cases c6 : tr < 1
  case pos =>
    have f6 : decide (tr < 1) = true := decide_eq_true (by omega)
    have HNG : Hid (¬ GoodS st ck tr ni ths) := hid (fun g => absurd c6 (by obtain ⟨g, -⟩ := g; have := g.t0; omega))
    clear c6
    go_enter Try.func13, Try.ntmps13
    go_wp2_with fail
    go_ret
    exact ⟨.inr ⟨rfl, HNG.out⟩, HBOX.out⟩
  have f6 : decide (tr < 1) = false := decide_eq_false (by omega)
  by_cases c7 : 1000 < tr
  case pos =>
    have f7 : decide (1000 < tr) = true := decide_eq_true (by omega)
    have HNG : Hid (¬ GoodS st ck tr ni ths) := hid (fun g => absurd c7 (by obtain ⟨g, -⟩ := g; have := g.t0; omega))
    clear c7
    go_enter Try.func13, Try.ntmps13
    go_wp2_with fail
    go_ret
    exact ⟨.inr ⟨rfl, HNG.out⟩, HBOX.out⟩
  have f7 : decide (1000 < tr) = false := decide_eq_false (by omega)
  by_cases c8 : 6 < (ths.length : Int)
  case pos =>
    have f8 : decide (6 < (ths.length : Int)) = true := decide_eq_true (by omega)
    have f8n : decide (6 < ths.length) = true := decide_eq_true (by omega)
    have HNG : Hid (¬ GoodS st ck tr ni ths) := hid (fun g => absurd c8 (by obtain ⟨g, -⟩ := g; have := g.l0; omega))
    clear c8
    go_enter Try.func13, Try.ntmps13
    go_wp2_with fail
    go_ret
    exact ⟨.inr ⟨rfl, HNG.out⟩, HBOX.out⟩
  have f8 : decide (6 < (ths.length : Int)) = false := decide_eq_false (by omega)
  have f8n : decide (6 < ths.length) = false := decide_eq_false (by omega)
  have HGN : Hid (GoodN st ck tr ni ths.length) := hid ⟨by omega, by omega, by omega, by omega, by omega⟩
  have hl6 : ths.length ≤ 6 := by omega
  clear c0 c1 c2 c3 c4 c5 c6 c7 c8
  go_enter Try.func13, Try.ntmps13
  go_wp2_with fail
  rw [← HW1.out]
  go_loopw [3] (fun i wr => ∃ (k : Nat), k ≤ ths.length ∧ i = .int .i64 k ∧ Hid (∀ th ∈ ths.take k, GoodTh th) ∧ Hid (Blk wr w.heap.size #[.int .i64 st, .int .i64 ck, .int .i64 tr, .slice pi ni ci, .slice a ths.length cap] 25) ∧ Hid (Below w.heap.size w wr)) (fun i _ => ths.length - (intOf i).toNat)
  case atStart => exact ⟨0, Nat.zero_le _, rfl, hid (by intro th hth; simp at hth), HX1, HB1⟩
  case round =>
      clear HX1 HB1 HW1 f0 f1 f2 f3 f4 f5 f6 f7 f8 f0n f1n f8n
      obtain ⟨wo, rfl⟩ : ∃ wo, wo = wr := ⟨_, rfl⟩
      obtain ⟨k, hk, rfl, HK, HXW, HBW⟩ := hrel
      have e4 := HXW.out.cell 4 (v := .slice a ths.length cap) rfl
      have hbl := HXW.out.lt
      by_cases hlt : k < ths.length
      · obtain ⟨q, off, rfl, hrd⟩ := HX.out (by intro h; subst h; simp at hlt)
        obtain ⟨vt, g0, ht⟩ := RdRow.get ths hrd k hlt
        have HRT := hid ht
        obtain ⟨pt, ct, rfl, hlt', hxt⟩ := ht
        have HE0 := hid g0
        have d0 := later HBW.out g0
        have hbq := lt_of_cell d0
        have HLT := hid hlt
        have HXT := hid hxt
        have HLT' := hid hlt'
        have j1 : decide ((k : Int) < (ths.length : Int)) = true := by rw [decide_eq_true_iff]; omega
        have j1n : decide (k < ths.length) = true := decide_eq_true hlt
        have j2 : (0 : Int) ≤ (k : Int) := by omega
        have j2n : (k : Int) < (ths.length : Int) := by omega
        have j3 : IntKind.i64.wrap ((k : Int) + 1) = (k : Int) + 1 := IntWalk.i64_in _ (by omega)
        have HTS : Hid ((∀ x ∈ ths.take k, GoodTh x) → GoodTh (ths[k]'hlt) → ∀ x ∈ ths.take (k + 1), GoodTh x) := hid (fun h1 h2 => all_take_succ hlt h1 h2)
        have HNO : Hid (¬ GoodTh (ths[k]'hlt) → ¬ GoodS st ck tr ni ths) := hid (fun h g => h (g.2 _ (List.getElem_mem hlt)))
        have HOT := hid (HOK.out _ (List.getElem_mem hlt))
        clear hrd g0 hxt hlt'
        generalize ths[k]'hlt = th at *
        by_cases h6 : 6 < th.length
        · have k1 : decide (6 < (th.length : Int)) = true := decide_eq_true (by omega)
          have k1n : decide (6 < th.length) = true := decide_eq_true h6
          have HNG := hid (HNO.out (fun g => by have := g.1; omega))
          clear h6
          go_wp2_with fail
          go_ret
          exact ⟨.inr ⟨rfl, HNG.out⟩, HBW.out⟩
        have k1 : decide (6 < (th.length : Int)) = false := decide_eq_false (by omega)
        have k1n : decide (6 < th.length) = false := decide_eq_false h6
        have H6 : Hid (th.length ≤ 6) := hid (by omega)
        clear h6
        go_wp2_with fail
        go_loopw [4] (fun i wx => ∃ (j : Nat), j ≤ th.length ∧ i = .int .i64 j ∧ Hid (∀ i (h : i < th.length), i < j → mayT (th[i]'h) (i : Int) = true) ∧ Hid (Blk wx w.heap.size #[.int .i64 st, .int .i64 ck, .int .i64 tr, .slice pi ni ci, .slice (some ⟨q, off, none⟩) ths.length cap] 25) ∧ Hid (Below w.heap.size w wx)) (fun i _ => th.length - (intOf i).toNat)
        case atStart => exact ⟨0, Nat.zero_le _, rfl, hid (fun i _ h => by omega), HXW, HBW⟩
        case round =>
          clear e4 hbl d0 hbq HXW HBW
          obtain ⟨j, hj, rfl, HJ, HXX, HBX⟩ := hrel
          have e4 := HXX.out.cell 4 (v := .slice (some ⟨q, off, none⟩) ths.length cap) rfl
          have hbl := HXX.out.lt
          have d0 := later HBX.out HE0.out
          have hbq := lt_of_cell d0
          by_cases hlj : j < th.length
          · skip
            obtain ⟨q', off', rfl, hrd'⟩ := HXT.out (by intro h; subst h; simp at hlj)
            obtain ⟨vx, f0, htx⟩ := RdRow.get th hrd' j hlj
            have HTX := hid (htx.below HBX.out)
            obtain ⟨px, cx, rfl, -, -⟩ := htx
            have f0' := later HBX.out f0
            have hbf := lt_of_cell f0'
            have HLJ := hid hlj
            have i1 : decide ((j : Int) < (th.length : Int)) = true := by rw [decide_eq_true_iff]; omega
            have i1n : decide (j < th.length) = true := decide_eq_true hlj
            have i2 : (0 : Int) ≤ (j : Int) := by omega
            have i2n : (j : Int) < (th.length : Int) := by omega
            have i3 : IntKind.i64.wrap ((j : Int) + 1) = (j : Int) + 1 := IntWalk.i64_in _ (by have := HLT'.out; omega)
            have HOX := hid (HOT.out.2 _ (List.getElem_mem hlj))
            have HJS : Hid (mayT (th[j]'hlj) (j : Int) = true → ∀ i (h : i < th.length), i < j + 1 → mayT (th[i]'h) (i : Int) = true) := hid (fun hm i h hi => by
              by_cases e : i < j
              · exact HJ.out i h e
              · obtain rfl : i = j := by omega
                exact hm)
            have HJN : Hid (mayT (th[j]'hlj) (j : Int) = false → ¬ GoodS st ck tr ni ths) := hid (fun hm => HNO.out (fun g => by have := g.2 j hlj; rw [hm] at this; cases this))
            clear hrd' f0
            generalize th[j]'hlj = tx at *
            have HCX := hid (fun (W : World) (h : Below wr.heap.size wr W) => rtmay_any tx (j : Int) W _ (HTX.out.below h) HOX.out)
            obtain ⟨qm, hqm⟩ : ∃ qm, mayT tx (j : Int) = qm := ⟨_, rfl⟩
            rw [hqm] at HJS HJN HCX
            clear hqm
            go_wp2_with fail
            refine (HCX.out _ (ext_refl _)).mono ?_
            rintro e w5 ⟨rfl, hb5⟩
            have HX5 := hid (HXX.out.below hb5)
            have HB5 := hid (ext_trans HBX.out hb5)
            clear hb5 d0 e4 f0' hbl hbq hbf
            cases qm with
            | false =>
              have HNG := hid (HJN.out rfl)
              go_wp2_with fail
              go_ret
              exact ⟨.inr ⟨rfl, HNG.out⟩, HB5.out⟩
            | true =>
              have HJ1 := hid (HJS.out rfl)
              go_wp2_with fail
              go_roundw
              case rel => exact ⟨j + 1, HLJ.out, by go_num, HJ1, HX5, HB5⟩
              case measure => have := HLJ.out; simp [intOf]; omega
          · obtain rfl : j = th.length := by omega
            have i1 : decide ((th.length : Int) < (th.length : Int)) = false := by rw [decide_eq_false_iff_not]; omega
            have i1n : decide (th.length < th.length) = false := by simp
            have HFIN := hid (HTS.out HK.out ⟨H6.out, fun i h => HJ.out i h h⟩)
            go_wp2_with fail
            go_roundw
            case rel => exact ⟨k + 1, HLT.out, by go_num, HFIN, HXX, HBX⟩
            case measure => have := HLT.out; simp [intOf]; omega
      · obtain rfl : k = ths.length := by omega
        have j1 : decide ((ths.length : Int) < (ths.length : Int)) = false := by rw [decide_eq_false_iff_not]; omega
        have j1n : decide (ths.length < ths.length) = false := by simp
        have HF : Hid (GoodS st ck tr ni ths) := hid ⟨HGN.out, by have := HK.out; rwa [List.take_length] at this⟩
        go_wp2_with fail
        go_ret
        exact ⟨.inl ⟨rfl, HF.out⟩, HBW.out⟩
end Go.Proofs.Ytoeegiaajngpeaa
