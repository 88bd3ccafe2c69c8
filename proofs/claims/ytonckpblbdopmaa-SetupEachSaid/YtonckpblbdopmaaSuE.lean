/-
  The walk of SetupEach.
-/
import Derived.Test.YtonckpblbdopmaaSuC3
import Derived.Test.YtonckpblbdopmaaSeW2
namespace Go.Proofs.Ytonckpblbdopmaa
set_option linter.unusedVariables false
set_option linter.unusedSimpArgs false
set_option linter.unusedVariables false
open Go Go.RowKit
theorem may_cost {t : List St} {n : Int} (h : mayT t n = true) : costT 0 t ≤ 2000 := by
  unfold mayT mayBad at h
  simp at h
  omega
theorem foldl_max_le {α : Type} (f : α → Nat) (b : Nat) : ∀ (l : List α) (n : Nat), n ≤ b → (∀ x ∈ l, f x ≤ b) → l.foldl (fun n t => max n (f t)) n ≤ b
  | [], n, h, _ => h
  | x :: xs, n, h, hx => by
    rw [List.foldl_cons]
    exact foldl_max_le f b xs _ (by have := hx x List.mem_cons_self; omega) (fun y hy => hx y (List.mem_cons_of_mem _ hy))
theorem good_cost {ths : List (List (List St))} (h : ∀ th ∈ ths, GoodTh th) : costThs ths ≤ 2000 := by
  refine foldl_max_le _ 2000 ths 0 (by omega) (fun th hth => foldl_max_le _ 2000 th 0 (by omega) (fun t ht => ?_))
  obtain ⟨i, hi, rfl⟩ := List.getElem_of_mem ht
  exact may_cost ((h th hth).2 i hi)
set_option maxRecDepth 100000 in
set_option maxHeartbeats 4000000 in
theorem setupEach_walk (st ck tr : Int) (pi : Option Addr) (ni ci : Nat) (ths : List (List (List St))) (v : Value) (w : World) (hr : RdThs w ths v) (hni : ni ≤ 9223372036854775807) :
    Calls Try.prog 12 #[.agg #[.int .i64 st, .int .i64 ck, .int .i64 tr, .slice pi ni ci, v]] w fun e' w' => e' = .returned (.bool true) ∧ Below w.heap.size w w' := by
  have HR := hid hr
  have HLG := hid (fun (W : World) (hb : Below w.heap.size w W) => large_any st ck tr pi ni ci ths v W (hr.below hb) hni)
  have HCK := hid (fun (W : World) (hb : Below w.heap.size w W) (hok : ∀ th ∈ ths, okTh th) => check_any st ck tr pi ni ci ths v W (hr.below hb) hok hni)
  have HCO := hid (fun (W : World) (hb : Below w.heap.size w W) => scost_any st ck tr pi ni ci ths v W (hr.below hb))
  obtain ⟨a, cap, rfl, hlen, hx⟩ := hr
  have HX := hid hx; clear hx
  have HNI := hid hni
  have HLN := hid hlen
  clear hni
  obtain ⟨W1, hW1⟩ : ∃ W1, W1 = w.alloc (.cells #[.int .i64 st, .int .i64 ck, .int .i64 tr, .slice pi ni ci, .slice a ths.length cap] 65) := ⟨_, rfl⟩
  have hb1 : Below w.heap.size w W1 := by rw [hW1]; exact ext_alloc (ext_refl _) _
  have hx1 : Blk W1 w.heap.size #[.int .i64 st, .int .i64 ck, .int .i64 tr, .slice pi ni ci, .slice a ths.length cap] 65 := by rw [hW1]; exact Blk.new _ _ _
  have HW1 := hid hW1
  have HB1 := hid hb1
  have HX1 := hid hx1
  clear hW1 hb1 hx1
  go_enter Try.func12, Try.ntmps12
  go_wp2_with fail
  rw [← HW1.out]
  refine (HLG.out W1 HB1.out).mono ?_
  rintro e w2 ⟨q, rfl, hq, hb2⟩
  have HQ := hid hq
  have HX2 := hid (HX1.out.below hb2)
  have HB2 := hid (ext_trans HB1.out hb2)
  clear hq hb2 HX1 HB1 HW1 HLG
  cases q with
  | true =>
    have hf := HB2.out
    clear HCK HCO HX HQ
    go_wp2_with fail
    refine (sawake_any _).mono ?_
    rintro e w3 ⟨rfl, hb3⟩
    have hf := ext_trans hf hb3
    go_wp2_with fail
    go_ret
    exact ⟨rfl, hf⟩
  | false =>
  obtain ⟨l1, l2, hO⟩ := HQ.out rfl
  have HO := hid hO
  clear HQ l1 l2 hO
  go_wp2_with fail
  refine (sawake_any _).mono ?_
  rintro e w3 ⟨rfl, hb3⟩
  have HX3 := hid (HX2.out.below hb3)
  have HB3 := hid (ext_trans HB2.out hb3)
  clear hb3 HX2 HB2
  go_upto_if 12 with fail
  rename_i Q' K0 hK0
  refine wp_cond_false rfl (wp_skip ?_)
  refine hK0 _ _ ?_
  clear hK0 K0
  apply wp_seq_k; intro K1 hK1
  have hrest : ∀ (x14 x15 x16 x17 x18 x19 x20 x21 x22 x23 x24 x25 x26 x27 x28 x29 x30 x31 x32 x33 x34 x35 x36 x37 x38 x39 x40 x41 x42 x43 x44 x45 x46 x47 x48 x49 x50 x51 x52 x53 x54 x55 x56 x57 x58 x59 x60 x61 x62 : Value) (okb : Bool), (okb = true ↔ GoodN st ck tr ni ths.length) → K1 { tmps := #[.agg #[.int .i64 st, .int .i64 ck, .int .i64 tr, .slice pi ni ci, .slice a ths.length cap], .pointer (some ⟨w.heap.size, 0, none⟩), .bool false, .bool okb, undef, undef, undef, .agg #[.int .i64 st, .int .i64 ck, .int .i64 tr, .slice pi ni ci, .slice a ths.length cap], .bool false, .bool false, .bool true, .bool false, .bool false, undef, x14, x15, x16, x17, x18, x19, x20, x21, x22, x23, x24, x25, x26, x27, x28, x29, x30, x31, x32, x33, x34, x35, x36, x37, x38, x39, x40, x41, x42, x43, x44, x45, x46, x47, x48, x49, x50, x51, x52, x53, x54, x55, x56, x57, x58, x59, x60, x61, x62, undef, undef, undef, undef, undef, undef, undef, undef, undef, undef, undef, undef, undef, undef, undef, undef, undef, undef, undef, undef, undef, undef, undef, undef, undef, undef, undef, undef, undef, undef, undef, undef, undef, undef, undef, undef, undef, undef, undef, undef, undef, undef, undef, undef, undef, undef, undef, undef, undef, undef, undef, undef, undef, undef, undef, undef, undef, undef, undef, undef, undef, undef, undef, undef, undef, undef, undef, undef, undef, undef], defers := [] } w3 := by
    intro x14 x15 x16 x17 x18 x19 x20 x21 x22 x23 x24 x25 x26 x27 x28 x29 x30 x31 x32 x33 x34 x35 x36 x37 x38 x39 x40 x41 x42 x43 x44 x45 x46 x47 x48 x49 x50 x51 x52 x53 x54 x55 x56 x57 x58 x59 x60 x61 x62 okb hokb
    have HOKB := hid hokb
    clear hokb
    refine hK1 _ _ ?_
    clear hK1
    go_wp2_with fail
    go_loopw [3, 4, 5] (fun ok so i wr => ∃ (k : Nat) (okb : Bool), k ≤ ths.length ∧ i = .int .i64 k ∧ ok = .bool okb ∧ so = .int .i64 (costThs (ths.take k) : Nat) ∧ Hid (okb = true ↔ GoodN st ck tr ni ths.length ∧ ∀ th ∈ ths.take k, GoodTh th) ∧ Hid (Blk wr w.heap.size #[.int .i64 st, .int .i64 ck, .int .i64 tr, .slice pi ni ci, .slice a ths.length cap] 65) ∧ Hid (Below w.heap.size w wr)) (fun _ _ i _ => ths.length - (intOf i).toNat)
    case atStart => exact ⟨0, okb, Nat.zero_le _, rfl, rfl, by simp [costThs], hid ⟨fun h => ⟨HOKB.out.1 h, fun th hth => by simp at hth⟩, fun h => HOKB.out.2 h.1⟩, HX3, HB3⟩
    case round =>
      clear HX3 HB3 HOKB
      obtain ⟨k, ok, hk, rfl, rfl, rfl, HK, HXW, HBW⟩ := hrel
      have e0 := HXW.out.cell 0 (v := .int .i64 st) rfl
      have e1 := HXW.out.cell 1 (v := .int .i64 ck) rfl
      have e2 := HXW.out.cell 2 (v := .int .i64 tr) rfl
      have e3 := HXW.out.cell 3 (v := .slice pi ni ci) rfl
      have e4 := HXW.out.cell 4 (v := .slice a ths.length cap) rfl
      have hbl := HXW.out.lt
      by_cases hlt : k < ths.length
      · obtain ⟨q, off, rfl, hrd⟩ := HX.out (by intro h; subst h; simp at hlt)
        obtain ⟨vt, g0, ht⟩ := RdRow.get ths hrd k hlt
        have HRT := hid ht
        obtain ⟨pt, ct, rfl, hlt', -⟩ := ht
        have HE0 := hid g0
        have d0 := later HBW.out g0
        have hbq := lt_of_cell d0
        have HLT := hid hlt
        have HLT' := hid hlt'
        have HOT := hid (HO.out _ (List.getElem_mem hlt))
        have HC := hid (costThs_take ths k hlt)
        have HTS : Hid ((∀ x ∈ ths.take k, GoodTh x) → GoodTh (ths[k]'hlt) → ∀ x ∈ ths.take (k + 1), GoodTh x) := hid (fun h1 h2 => all_take_succ hlt h1 h2)
        have HMT : Hid (ths[k]'hlt ∈ ths.take (k + 1)) := hid (by rw [List.take_succ_eq_append_getElem hlt]; exact List.mem_append_right _ (List.mem_singleton.2 rfl))
        have HMS : Hid (∀ x ∈ ths.take k, x ∈ ths.take (k + 1)) := hid (fun x hx => by rw [List.take_succ_eq_append_getElem hlt]; exact List.mem_append_left _ hx)
        have j1 : decide ((k : Int) < (ths.length : Int)) = true := by rw [decide_eq_true_iff]; omega
        have j1n : decide (k < ths.length) = true := decide_eq_true hlt
        have j2 : (0 : Int) ≤ (k : Int) := by omega
        have j3 : IntKind.i64.wrap ((k : Int) + 1) = (k : Int) + 1 := IntWalk.i64_in _ (by omega)
        clear hrd g0 hlt'
        generalize ths[k]'hlt = th at *
        generalize costThs (ths.take k) = m0 at *
        have hcase : (ok = true ∧ th.length ≤ 6) ∨ (ok = true ∧ ¬ th.length ≤ 6) ∨ ok = false := by cases ok <;> simp <;> omega
        rcases hcase with ⟨rfl, h6⟩ | ⟨rfl, h6⟩ | rfl
        · have k6 : decide ((th.length : Int) ≤ 6) = true := decide_eq_true (by omega)
          have k6n : decide (th.length ≤ 6) = true := decide_eq_true h6
          have HS0 : Hid (true = true ↔ (GoodN st ck tr ni ths.length ∧ ∀ th ∈ ths.take k, GoodTh th) ∧ th.length ≤ 6 ∧ ∀ i (h : i < th.length), i < 0 → mayT th[i] (i : Int) = true) := hid ⟨fun h => ⟨HK.out.1 h, h6, fun i _ h => by omega⟩, fun _ => rfl⟩
          clear h6
          go_wp2_with fail
          go_loopw [3, 4, 6] (fun ok so i wr => ∃ (j : Nat) (okj : Bool), j ≤ th.length ∧ i = .int .i64 j ∧ ok = .bool okj ∧ so = .int .i64 ((max m0 (costTh (th.take j)) : Nat) : Int) ∧ Hid (okj = true ↔ (GoodN st ck tr ni ths.length ∧ ∀ th ∈ ths.take k, GoodTh th) ∧ th.length ≤ 6 ∧ ∀ i (h : i < th.length), i < j → mayT th[i] (i : Int) = true) ∧ Hid (Blk wr w.heap.size #[.int .i64 st, .int .i64 ck, .int .i64 tr, .slice pi ni ci, .slice (some ⟨q, off, none⟩) ths.length cap] 65) ∧ Hid (Below w.heap.size w wr)) (fun _ _ i _ => th.length - (intOf i).toNat)
          case atStart => exact ⟨0, true, Nat.zero_le _, rfl, rfl, by simp [costTh], hid (by have h := HS0.out; first | exact h | simpa using h), HXW, HBW⟩
          case round =>
            clear HXW HBW hbl e0 e1 e2 e3 e4 d0 hbq HS0 HK
            obtain ⟨j, okj, hj, rfl, rfl, rfl, HJ, HXW, HBW⟩ := hrel
            have e0 := HXW.out.cell 0 (v := .int .i64 st) rfl
            have e1 := HXW.out.cell 1 (v := .int .i64 ck) rfl
            have e2 := HXW.out.cell 2 (v := .int .i64 tr) rfl
            have e3 := HXW.out.cell 3 (v := .slice pi ni ci) rfl
            have e4 := HXW.out.cell 4 (v := .slice (some ⟨q, off, none⟩) ths.length cap) rfl
            have hbl := HXW.out.lt
            have d0 := later HBW.out HE0.out
            have hbq := lt_of_cell d0
            by_cases hlj : j < th.length
            · obtain ⟨pt', ct', hpt, -, hxt⟩ := HRT.out
              cases hpt
              obtain ⟨q', off', rfl, hrd'⟩ := hxt (by intro h; subst h; simp at hlj)
              obtain ⟨vx, f0, htx⟩ := RdRow.get th hrd' j hlj
              have HTX := hid (htx.below HBW.out)
              obtain ⟨px, cx, rfl, -, -⟩ := htx
              have f0' := later HBW.out f0
              have hbf := lt_of_cell f0'
              have HLJ := hid hlj
              have HOX := hid (HOT.out.2 _ (List.getElem_mem hlj))
              have HCT := hid (costTh_take th j hlj)
              have HJS : Hid (∀ qm : Bool, mayT (th[j]'hlj) (j : Int) = qm → ((okj && qm) = true ↔ (GoodN st ck tr ni ths.length ∧ ∀ th ∈ ths.take k, GoodTh th) ∧ th.length ≤ 6 ∧ ∀ i (h : i < th.length), i < j + 1 → mayT th[i] (i : Int) = true)) := hid (fun qm hqm => by
                rw [Bool.and_eq_true, HJ.out]
                constructor
                · rintro ⟨⟨h1, h2, h3⟩, h4⟩
                  refine ⟨h1, h2, fun i h hi => ?_⟩
                  by_cases e : i < j
                  · exact h3 i h e
                  · obtain rfl : i = j := by omega
                    rw [hqm]; exact h4
                · rintro ⟨h1, h2, h3⟩
                  refine ⟨⟨h1, h2, fun i h hi => h3 i h (by omega)⟩, ?_⟩
                  rw [← hqm]; exact h3 j hlj (by omega))
              have i1 : decide ((j : Int) < (th.length : Int)) = true := by rw [decide_eq_true_iff]; omega
              have i1n : decide (j < th.length) = true := decide_eq_true hlj
              have i2 : (0 : Int) ≤ (j : Int) := by omega
              have i3 : IntKind.i64.wrap ((j : Int) + 1) = (j : Int) + 1 := IntWalk.i64_in _ (by have := HLT'.out; omega)
              clear hxt hrd' f0
              generalize th[j]'hlj = tx at *
              generalize costTh (th.take j) = mj at *
              cases okj with
              | true =>
                go_wp2_with fail
                refine (tmay_any tx _ (j : Int) _ HTX.out HOX.out).mono ?_
                rintro e w4 ⟨rfl, hb4⟩
                have HX4 := hid (HXW.out.below hb4)
                have HB4 := hid (ext_trans HBW.out hb4)
                have HTX4 := hid (HTX.out.below hb4)
                have d0 := later hb4 d0
                have f0' := later hb4 f0'
                clear e0 e1 e2 e3 e4 hb4
                have e0 := HX4.out.cell 0 (v := .int .i64 st) rfl
                have e1 := HX4.out.cell 1 (v := .int .i64 ck) rfl
                have e2 := HX4.out.cell 2 (v := .int .i64 tr) rfl
                have e3 := HX4.out.cell 3 (v := .slice pi ni ci) rfl
                have e4 := HX4.out.cell 4 (v := .slice (some ⟨q, off, none⟩) ths.length cap) rfl
                obtain ⟨qm, hqm⟩ : ∃ qm, mayT tx (j : Int) = qm := ⟨_, rfl⟩
                have HJ1 := hid (HJS.out qm hqm)
                rw [hqm]
                clear hqm
                go_wp2_with fail
                refine (tcost_any tx _ _ HTX4.out).mono ?_
                rintro e w5 ⟨rfl, hb5⟩
                have HX5 := hid (HX4.out.below hb5)
                have HB5 := hid (ext_trans HB4.out hb5)
                clear hb5 d0 f0' e0 e1 e2 e3 e4
                generalize costT 0 tx = c at *
                go_wp2_with fail
                go_roundw
                case rel => exact ⟨j + 1, qm, HLJ.out, by go_num, rfl, (by rw [HCT.out]; first | go_num | (congr 1; omega)), hid (by have := HJ1.out; simpa using this), HX5, HB5⟩
                case measure => have := HLJ.out; simp [intOf]; omega
              | false =>
                have HJ1 := hid (HJS.out _ rfl)
                go_wp2_with fail
                refine (tcost_any tx _ _ HTX.out).mono ?_
                rintro e w5 ⟨rfl, hb5⟩
                have HX5 := hid (HXW.out.below hb5)
                have HB5 := hid (ext_trans HBW.out hb5)
                clear hb5 d0 f0' e0 e1 e2 e3 e4
                generalize costT 0 tx = c at *
                go_wp2_with fail
                go_roundw
                case rel => exact ⟨j + 1, false, HLJ.out, by go_num, rfl, (by rw [HCT.out]; first | go_num | (congr 1; omega)), hid (by have := HJ1.out; rwa [Bool.false_and] at this), HX5, HB5⟩
                case measure => have := HLJ.out; simp [intOf]; omega
            · obtain rfl : j = th.length := by omega
              have i1 : decide ((th.length : Int) < (th.length : Int)) = false := by rw [decide_eq_false_iff_not]; omega
              have i1n : decide (th.length < th.length) = false := by simp
              have HFIN : Hid (okj = true ↔ GoodN st ck tr ni ths.length ∧ ∀ x ∈ ths.take (k + 1), GoodTh x) := hid (by
                rw [HJ.out]
                constructor
                · rintro ⟨⟨h1, h2⟩, h3, h4⟩
                  exact ⟨h1, HTS.out h2 ⟨h3, fun i h => h4 i h h⟩⟩
                · rintro ⟨h1, h2⟩
                  obtain ⟨h3, h4⟩ := h2 th HMT.out
                  exact ⟨⟨h1, fun x hx => h2 x (HMS.out x hx)⟩, h3, fun i h _ => h4 i h⟩)
              have HTL : Hid (th.take th.length = th) := hid (List.take_length)
              rw [HTL.out]
              generalize costTh th = c at *
              go_wp2_with fail
              go_roundw
              case rel => exact ⟨k + 1, okj, HLT.out, by go_num, rfl, (by rw [HC.out]), HFIN, HXW, HBW⟩
              case measure => have := HLT.out; simp [intOf]; omega
        · have k6 : decide ((th.length : Int) ≤ 6) = false := decide_eq_false (by omega)
          have k6n : decide (th.length ≤ 6) = false := decide_eq_false h6
          have HS0 : Hid (false = true ↔ (GoodN st ck tr ni ths.length ∧ ∀ th ∈ ths.take k, GoodTh th) ∧ th.length ≤ 6 ∧ ∀ i (h : i < th.length), i < 0 → mayT th[i] (i : Int) = true) := hid ⟨(fun h => by cases h), fun h => absurd h.2.1 h6⟩
          clear h6
          go_wp2_with fail
          go_loopw [3, 4, 6] (fun ok so i wr => ∃ (j : Nat) (okj : Bool), j ≤ th.length ∧ i = .int .i64 j ∧ ok = .bool okj ∧ so = .int .i64 ((max m0 (costTh (th.take j)) : Nat) : Int) ∧ Hid (okj = true ↔ (GoodN st ck tr ni ths.length ∧ ∀ th ∈ ths.take k, GoodTh th) ∧ th.length ≤ 6 ∧ ∀ i (h : i < th.length), i < j → mayT th[i] (i : Int) = true) ∧ Hid (Blk wr w.heap.size #[.int .i64 st, .int .i64 ck, .int .i64 tr, .slice pi ni ci, .slice (some ⟨q, off, none⟩) ths.length cap] 65) ∧ Hid (Below w.heap.size w wr)) (fun _ _ i _ => th.length - (intOf i).toNat)
          case atStart => exact ⟨0, false, Nat.zero_le _, rfl, rfl, by simp [costTh], hid (by have h := HS0.out; first | exact h | simpa using h), HXW, HBW⟩
          case round =>
            clear HXW HBW hbl e0 e1 e2 e3 e4 d0 hbq HS0 HK
            obtain ⟨j, okj, hj, rfl, rfl, rfl, HJ, HXW, HBW⟩ := hrel
            have e0 := HXW.out.cell 0 (v := .int .i64 st) rfl
            have e1 := HXW.out.cell 1 (v := .int .i64 ck) rfl
            have e2 := HXW.out.cell 2 (v := .int .i64 tr) rfl
            have e3 := HXW.out.cell 3 (v := .slice pi ni ci) rfl
            have e4 := HXW.out.cell 4 (v := .slice (some ⟨q, off, none⟩) ths.length cap) rfl
            have hbl := HXW.out.lt
            have d0 := later HBW.out HE0.out
            have hbq := lt_of_cell d0
            by_cases hlj : j < th.length
            · obtain ⟨pt', ct', hpt, -, hxt⟩ := HRT.out
              cases hpt
              obtain ⟨q', off', rfl, hrd'⟩ := hxt (by intro h; subst h; simp at hlj)
              obtain ⟨vx, f0, htx⟩ := RdRow.get th hrd' j hlj
              have HTX := hid (htx.below HBW.out)
              obtain ⟨px, cx, rfl, -, -⟩ := htx
              have f0' := later HBW.out f0
              have hbf := lt_of_cell f0'
              have HLJ := hid hlj
              have HOX := hid (HOT.out.2 _ (List.getElem_mem hlj))
              have HCT := hid (costTh_take th j hlj)
              have HJS : Hid (∀ qm : Bool, mayT (th[j]'hlj) (j : Int) = qm → ((okj && qm) = true ↔ (GoodN st ck tr ni ths.length ∧ ∀ th ∈ ths.take k, GoodTh th) ∧ th.length ≤ 6 ∧ ∀ i (h : i < th.length), i < j + 1 → mayT th[i] (i : Int) = true)) := hid (fun qm hqm => by
                rw [Bool.and_eq_true, HJ.out]
                constructor
                · rintro ⟨⟨h1, h2, h3⟩, h4⟩
                  refine ⟨h1, h2, fun i h hi => ?_⟩
                  by_cases e : i < j
                  · exact h3 i h e
                  · obtain rfl : i = j := by omega
                    rw [hqm]; exact h4
                · rintro ⟨h1, h2, h3⟩
                  refine ⟨⟨h1, h2, fun i h hi => h3 i h (by omega)⟩, ?_⟩
                  rw [← hqm]; exact h3 j hlj (by omega))
              have i1 : decide ((j : Int) < (th.length : Int)) = true := by rw [decide_eq_true_iff]; omega
              have i1n : decide (j < th.length) = true := decide_eq_true hlj
              have i2 : (0 : Int) ≤ (j : Int) := by omega
              have i3 : IntKind.i64.wrap ((j : Int) + 1) = (j : Int) + 1 := IntWalk.i64_in _ (by have := HLT'.out; omega)
              clear hxt hrd' f0
              generalize th[j]'hlj = tx at *
              generalize costTh (th.take j) = mj at *
              cases okj with
              | true =>
                go_wp2_with fail
                refine (tmay_any tx _ (j : Int) _ HTX.out HOX.out).mono ?_
                rintro e w4 ⟨rfl, hb4⟩
                have HX4 := hid (HXW.out.below hb4)
                have HB4 := hid (ext_trans HBW.out hb4)
                have HTX4 := hid (HTX.out.below hb4)
                have d0 := later hb4 d0
                have f0' := later hb4 f0'
                clear e0 e1 e2 e3 e4 hb4
                have e0 := HX4.out.cell 0 (v := .int .i64 st) rfl
                have e1 := HX4.out.cell 1 (v := .int .i64 ck) rfl
                have e2 := HX4.out.cell 2 (v := .int .i64 tr) rfl
                have e3 := HX4.out.cell 3 (v := .slice pi ni ci) rfl
                have e4 := HX4.out.cell 4 (v := .slice (some ⟨q, off, none⟩) ths.length cap) rfl
                obtain ⟨qm, hqm⟩ : ∃ qm, mayT tx (j : Int) = qm := ⟨_, rfl⟩
                have HJ1 := hid (HJS.out qm hqm)
                rw [hqm]
                clear hqm
                go_wp2_with fail
                refine (tcost_any tx _ _ HTX4.out).mono ?_
                rintro e w5 ⟨rfl, hb5⟩
                have HX5 := hid (HX4.out.below hb5)
                have HB5 := hid (ext_trans HB4.out hb5)
                clear hb5 d0 f0' e0 e1 e2 e3 e4
                generalize costT 0 tx = c at *
                go_wp2_with fail
                go_roundw
                case rel => exact ⟨j + 1, qm, HLJ.out, by go_num, rfl, (by rw [HCT.out]; first | go_num | (congr 1; omega)), hid (by have := HJ1.out; simpa using this), HX5, HB5⟩
                case measure => have := HLJ.out; simp [intOf]; omega
              | false =>
                have HJ1 := hid (HJS.out _ rfl)
                go_wp2_with fail
                refine (tcost_any tx _ _ HTX.out).mono ?_
                rintro e w5 ⟨rfl, hb5⟩
                have HX5 := hid (HXW.out.below hb5)
                have HB5 := hid (ext_trans HBW.out hb5)
                clear hb5 d0 f0' e0 e1 e2 e3 e4
                generalize costT 0 tx = c at *
                go_wp2_with fail
                go_roundw
                case rel => exact ⟨j + 1, false, HLJ.out, by go_num, rfl, (by rw [HCT.out]; first | go_num | (congr 1; omega)), hid (by have := HJ1.out; rwa [Bool.false_and] at this), HX5, HB5⟩
                case measure => have := HLJ.out; simp [intOf]; omega
            · obtain rfl : j = th.length := by omega
              have i1 : decide ((th.length : Int) < (th.length : Int)) = false := by rw [decide_eq_false_iff_not]; omega
              have i1n : decide (th.length < th.length) = false := by simp
              have HFIN : Hid (okj = true ↔ GoodN st ck tr ni ths.length ∧ ∀ x ∈ ths.take (k + 1), GoodTh x) := hid (by
                rw [HJ.out]
                constructor
                · rintro ⟨⟨h1, h2⟩, h3, h4⟩
                  exact ⟨h1, HTS.out h2 ⟨h3, fun i h => h4 i h h⟩⟩
                · rintro ⟨h1, h2⟩
                  obtain ⟨h3, h4⟩ := h2 th HMT.out
                  exact ⟨⟨h1, fun x hx => h2 x (HMS.out x hx)⟩, h3, fun i h _ => h4 i h⟩)
              have HTL : Hid (th.take th.length = th) := hid (List.take_length)
              rw [HTL.out]
              generalize costTh th = c at *
              go_wp2_with fail
              go_roundw
              case rel => exact ⟨k + 1, okj, HLT.out, by go_num, rfl, (by rw [HC.out]), HFIN, HXW, HBW⟩
              case measure => have := HLT.out; simp [intOf]; omega
        · have HS0 : Hid (false = true ↔ (GoodN st ck tr ni ths.length ∧ ∀ th ∈ ths.take k, GoodTh th) ∧ th.length ≤ 6 ∧ ∀ i (h : i < th.length), i < 0 → mayT th[i] (i : Int) = true) := hid ⟨(fun h => by cases h), fun h => HK.out.2 h.1⟩
          go_wp2_with fail
          go_loopw [3, 4, 6] (fun ok so i wr => ∃ (j : Nat) (okj : Bool), j ≤ th.length ∧ i = .int .i64 j ∧ ok = .bool okj ∧ so = .int .i64 ((max m0 (costTh (th.take j)) : Nat) : Int) ∧ Hid (okj = true ↔ (GoodN st ck tr ni ths.length ∧ ∀ th ∈ ths.take k, GoodTh th) ∧ th.length ≤ 6 ∧ ∀ i (h : i < th.length), i < j → mayT th[i] (i : Int) = true) ∧ Hid (Blk wr w.heap.size #[.int .i64 st, .int .i64 ck, .int .i64 tr, .slice pi ni ci, .slice (some ⟨q, off, none⟩) ths.length cap] 65) ∧ Hid (Below w.heap.size w wr)) (fun _ _ i _ => th.length - (intOf i).toNat)
          case atStart => exact ⟨0, false, Nat.zero_le _, rfl, rfl, by simp [costTh], hid (by have h := HS0.out; first | exact h | simpa using h), HXW, HBW⟩
          case round =>
            clear HXW HBW hbl e0 e1 e2 e3 e4 d0 hbq HS0 HK
            obtain ⟨j, okj, hj, rfl, rfl, rfl, HJ, HXW, HBW⟩ := hrel
            have e0 := HXW.out.cell 0 (v := .int .i64 st) rfl
            have e1 := HXW.out.cell 1 (v := .int .i64 ck) rfl
            have e2 := HXW.out.cell 2 (v := .int .i64 tr) rfl
            have e3 := HXW.out.cell 3 (v := .slice pi ni ci) rfl
            have e4 := HXW.out.cell 4 (v := .slice (some ⟨q, off, none⟩) ths.length cap) rfl
            have hbl := HXW.out.lt
            have d0 := later HBW.out HE0.out
            have hbq := lt_of_cell d0
            by_cases hlj : j < th.length
            · obtain ⟨pt', ct', hpt, -, hxt⟩ := HRT.out
              cases hpt
              obtain ⟨q', off', rfl, hrd'⟩ := hxt (by intro h; subst h; simp at hlj)
              obtain ⟨vx, f0, htx⟩ := RdRow.get th hrd' j hlj
              have HTX := hid (htx.below HBW.out)
              obtain ⟨px, cx, rfl, -, -⟩ := htx
              have f0' := later HBW.out f0
              have hbf := lt_of_cell f0'
              have HLJ := hid hlj
              have HOX := hid (HOT.out.2 _ (List.getElem_mem hlj))
              have HCT := hid (costTh_take th j hlj)
              have HJS : Hid (∀ qm : Bool, mayT (th[j]'hlj) (j : Int) = qm → ((okj && qm) = true ↔ (GoodN st ck tr ni ths.length ∧ ∀ th ∈ ths.take k, GoodTh th) ∧ th.length ≤ 6 ∧ ∀ i (h : i < th.length), i < j + 1 → mayT th[i] (i : Int) = true)) := hid (fun qm hqm => by
                rw [Bool.and_eq_true, HJ.out]
                constructor
                · rintro ⟨⟨h1, h2, h3⟩, h4⟩
                  refine ⟨h1, h2, fun i h hi => ?_⟩
                  by_cases e : i < j
                  · exact h3 i h e
                  · obtain rfl : i = j := by omega
                    rw [hqm]; exact h4
                · rintro ⟨h1, h2, h3⟩
                  refine ⟨⟨h1, h2, fun i h hi => h3 i h (by omega)⟩, ?_⟩
                  rw [← hqm]; exact h3 j hlj (by omega))
              have i1 : decide ((j : Int) < (th.length : Int)) = true := by rw [decide_eq_true_iff]; omega
              have i1n : decide (j < th.length) = true := decide_eq_true hlj
              have i2 : (0 : Int) ≤ (j : Int) := by omega
              have i3 : IntKind.i64.wrap ((j : Int) + 1) = (j : Int) + 1 := IntWalk.i64_in _ (by have := HLT'.out; omega)
              clear hxt hrd' f0
              generalize th[j]'hlj = tx at *
              generalize costTh (th.take j) = mj at *
              cases okj with
              | true =>
                go_wp2_with fail
                refine (tmay_any tx _ (j : Int) _ HTX.out HOX.out).mono ?_
                rintro e w4 ⟨rfl, hb4⟩
                have HX4 := hid (HXW.out.below hb4)
                have HB4 := hid (ext_trans HBW.out hb4)
                have HTX4 := hid (HTX.out.below hb4)
                have d0 := later hb4 d0
                have f0' := later hb4 f0'
                clear e0 e1 e2 e3 e4 hb4
                have e0 := HX4.out.cell 0 (v := .int .i64 st) rfl
                have e1 := HX4.out.cell 1 (v := .int .i64 ck) rfl
                have e2 := HX4.out.cell 2 (v := .int .i64 tr) rfl
                have e3 := HX4.out.cell 3 (v := .slice pi ni ci) rfl
                have e4 := HX4.out.cell 4 (v := .slice (some ⟨q, off, none⟩) ths.length cap) rfl
                obtain ⟨qm, hqm⟩ : ∃ qm, mayT tx (j : Int) = qm := ⟨_, rfl⟩
                have HJ1 := hid (HJS.out qm hqm)
                rw [hqm]
                clear hqm
                go_wp2_with fail
                refine (tcost_any tx _ _ HTX4.out).mono ?_
                rintro e w5 ⟨rfl, hb5⟩
                have HX5 := hid (HX4.out.below hb5)
                have HB5 := hid (ext_trans HB4.out hb5)
                clear hb5 d0 f0' e0 e1 e2 e3 e4
                generalize costT 0 tx = c at *
                go_wp2_with fail
                go_roundw
                case rel => exact ⟨j + 1, qm, HLJ.out, by go_num, rfl, (by rw [HCT.out]; first | go_num | (congr 1; omega)), hid (by have := HJ1.out; simpa using this), HX5, HB5⟩
                case measure => have := HLJ.out; simp [intOf]; omega
              | false =>
                have HJ1 := hid (HJS.out _ rfl)
                go_wp2_with fail
                refine (tcost_any tx _ _ HTX.out).mono ?_
                rintro e w5 ⟨rfl, hb5⟩
                have HX5 := hid (HXW.out.below hb5)
                have HB5 := hid (ext_trans HBW.out hb5)
                clear hb5 d0 f0' e0 e1 e2 e3 e4
                generalize costT 0 tx = c at *
                go_wp2_with fail
                go_roundw
                case rel => exact ⟨j + 1, false, HLJ.out, by go_num, rfl, (by rw [HCT.out]; first | go_num | (congr 1; omega)), hid (by have := HJ1.out; rwa [Bool.false_and] at this), HX5, HB5⟩
                case measure => have := HLJ.out; simp [intOf]; omega
            · obtain rfl : j = th.length := by omega
              have i1 : decide ((th.length : Int) < (th.length : Int)) = false := by rw [decide_eq_false_iff_not]; omega
              have i1n : decide (th.length < th.length) = false := by simp
              have HFIN : Hid (okj = true ↔ GoodN st ck tr ni ths.length ∧ ∀ x ∈ ths.take (k + 1), GoodTh x) := hid (by
                rw [HJ.out]
                constructor
                · rintro ⟨⟨h1, h2⟩, h3, h4⟩
                  exact ⟨h1, HTS.out h2 ⟨h3, fun i h => h4 i h h⟩⟩
                · rintro ⟨h1, h2⟩
                  obtain ⟨h3, h4⟩ := h2 th HMT.out
                  exact ⟨⟨h1, fun x hx => h2 x (HMS.out x hx)⟩, h3, fun i h _ => h4 i h⟩)
              have HTL : Hid (th.take th.length = th) := hid (List.take_length)
              rw [HTL.out]
              generalize costTh th = c at *
              go_wp2_with fail
              go_roundw
              case rel => exact ⟨k + 1, okj, HLT.out, by go_num, rfl, (by rw [HC.out]), HFIN, HXW, HBW⟩
              case measure => have := HLT.out; simp [intOf]; omega
      · obtain rfl : k = ths.length := by omega
        have j1 : decide ((ths.length : Int) < (ths.length : Int)) = false := by rw [decide_eq_false_iff_not]; omega
        have j1n : decide (ths.length < ths.length) = false := by simp
        have HKF : Hid (ok = true ↔ GoodS st ck tr ni ths) := hid (by have := HK.out; rwa [List.take_length] at this)
        have HGC : Hid (GoodS st ck tr ni ths → costThs ths ≤ 2000) := hid (fun g => good_cost g.2)
        have HTL : Hid (ths.take ths.length = ths) := hid (List.take_length)
        clear HK
        rw [HTL.out]
        go_wp2_with fail
        refine (HCK.out _ HBW.out HO.out).mono ?_
        rintro e w4 ⟨hres, hb4⟩
        have HX4 := hid (HXW.out.below hb4)
        have HB4 := hid (ext_trans HBW.out hb4)
        have d0 := HX4.out.cell 0 (v := .int .i64 st) rfl
        have d1 := HX4.out.cell 1 (v := .int .i64 ck) rfl
        have d2 := HX4.out.cell 2 (v := .int .i64 tr) rfl
        have d3 := HX4.out.cell 3 (v := .slice pi ni ci) rfl
        have d4 := HX4.out.cell 4 (v := .slice a ths.length cap) rfl
        clear e0 e1 e2 e3 e4 hb4
        rcases hres with ⟨rfl, hg⟩ | ⟨rfl, hg⟩
        · obtain rfl : ok = true := HKF.out.2 hg
          have hc := HGC.out hg
          have k1 : decide ((costThs ths : Int) ≤ 2000) = true := decide_eq_true (by omega)
          have k2 : decide (costThs ths ≤ 2000) = true := decide_eq_true hc
          clear hg hc
          go_wp2_with fail
          refine (HCO.out _ HB4.out).mono ?_
          rintro e w5 ⟨rfl, hb5⟩
          have hf := ext_trans HB4.out hb5
          go_wp2_with fail
          go_ret
          exact ⟨rfl, hf⟩
        · obtain rfl : ok = false := by
            cases ok with
            | false => rfl
            | true => exact absurd (HKF.out.1 rfl) hg
          clear hg
          go_wp2_with fail
          refine (HCO.out _ HB4.out).mono ?_
          rintro e w5 ⟨rfl, hb5⟩
          have hf := ext_trans HB4.out hb5
          go_wp2_with fail
          go_ret
          exact ⟨rfl, hf⟩
  have HREST := hid hrest
  clear hrest hK1
  have e0 := HX3.out.cell 0 (v := .int .i64 st) rfl
  have e1 := HX3.out.cell 1 (v := .int .i64 ck) rfl
  have e2 := HX3.out.cell 2 (v := .int .i64 tr) rfl
  have e3 := HX3.out.cell 3 (v := .slice pi ni ci) rfl
  have e4 := HX3.out.cell 4 (v := .slice a ths.length cap) rfl
  by_cases h0 : 1 ≤ (ni : Int)
  case neg =>
    have k0 : decide (1 ≤ (ni : Int)) = false := decide_eq_false h0
    have hng : (false = true ↔ GoodN st ck tr ni ths.length) := ⟨(fun h => by cases h), fun g => absurd (by have := g.n0; omega) h0⟩
    have HNG := hid hng
    clear hng h0
    go_wp2_with fail
    exact HREST.out _ _ _ _ _ _ _ _ _ _ _ _ _ _ _ _ _ _ _ _ _ _ _ _ _ _ _ _ _ _ _ _ _ _ _ _ _ _ _ _ _ _ _ _ _ _ _ _ _ _ HNG.out
  have k0 : decide (1 ≤ (ni : Int)) = true := decide_eq_true h0
  by_cases h1 : (ni : Int) ≤ 32
  case neg =>
    have k1 : decide ((ni : Int) ≤ 32) = false := decide_eq_false h1
    have hng : (false = true ↔ GoodN st ck tr ni ths.length) := ⟨(fun h => by cases h), fun g => absurd (by have := g.n0; omega) h1⟩
    have HNG := hid hng
    clear hng h1
    go_wp2_with fail
    exact HREST.out _ _ _ _ _ _ _ _ _ _ _ _ _ _ _ _ _ _ _ _ _ _ _ _ _ _ _ _ _ _ _ _ _ _ _ _ _ _ _ _ _ _ _ _ _ _ _ _ _ _ HNG.out
  have k1 : decide ((ni : Int) ≤ 32) = true := decide_eq_true h1
  by_cases h2 : 1 ≤ st
  case neg =>
    have k2 : decide (1 ≤ st) = false := decide_eq_false h2
    have hng : (false = true ↔ GoodN st ck tr ni ths.length) := ⟨(fun h => by cases h), fun g => absurd (g.s0.1) h2⟩
    have HNG := hid hng
    clear hng h2
    go_wp2_with fail
    exact HREST.out _ _ _ _ _ _ _ _ _ _ _ _ _ _ _ _ _ _ _ _ _ _ _ _ _ _ _ _ _ _ _ _ _ _ _ _ _ _ _ _ _ _ _ _ _ _ _ _ _ _ HNG.out
  have k2 : decide (1 ≤ st) = true := decide_eq_true h2
  by_cases h3 : st ≤ (ni : Int)
  case neg =>
    have k3 : decide (st ≤ (ni : Int)) = false := decide_eq_false h3
    have hng : (false = true ↔ GoodN st ck tr ni ths.length) := ⟨(fun h => by cases h), fun g => absurd (g.s0.2) h3⟩
    have HNG := hid hng
    clear hng h3
    go_wp2_with fail
    exact HREST.out _ _ _ _ _ _ _ _ _ _ _ _ _ _ _ _ _ _ _ _ _ _ _ _ _ _ _ _ _ _ _ _ _ _ _ _ _ _ _ _ _ _ _ _ _ _ _ _ _ _ HNG.out
  have k3 : decide (st ≤ (ni : Int)) = true := decide_eq_true h3
  by_cases h4 : 0 ≤ ck
  case neg =>
    have k4 : decide (0 ≤ ck) = false := decide_eq_false h4
    have hng : (false = true ↔ GoodN st ck tr ni ths.length) := ⟨(fun h => by cases h), fun g => absurd (g.c0.1) h4⟩
    have HNG := hid hng
    clear hng h4
    go_wp2_with fail
    exact HREST.out _ _ _ _ _ _ _ _ _ _ _ _ _ _ _ _ _ _ _ _ _ _ _ _ _ _ _ _ _ _ _ _ _ _ _ _ _ _ _ _ _ _ _ _ _ _ _ _ _ _ HNG.out
  have k4 : decide (0 ≤ ck) = true := decide_eq_true h4
  by_cases h5 : ck ≤ 1099511627776
  case neg =>
    have k5 : decide (ck ≤ 1099511627776) = false := decide_eq_false h5
    have hng : (false = true ↔ GoodN st ck tr ni ths.length) := ⟨(fun h => by cases h), fun g => absurd (g.c0.2) h5⟩
    have HNG := hid hng
    clear hng h5
    go_wp2_with fail
    exact HREST.out _ _ _ _ _ _ _ _ _ _ _ _ _ _ _ _ _ _ _ _ _ _ _ _ _ _ _ _ _ _ _ _ _ _ _ _ _ _ _ _ _ _ _ _ _ _ _ _ _ _ HNG.out
  have k5 : decide (ck ≤ 1099511627776) = true := decide_eq_true h5
  by_cases h6 : 1 ≤ tr
  case neg =>
    have k6 : decide (1 ≤ tr) = false := decide_eq_false h6
    have hng : (false = true ↔ GoodN st ck tr ni ths.length) := ⟨(fun h => by cases h), fun g => absurd (g.t0.1) h6⟩
    have HNG := hid hng
    clear hng h6
    go_wp2_with fail
    exact HREST.out _ _ _ _ _ _ _ _ _ _ _ _ _ _ _ _ _ _ _ _ _ _ _ _ _ _ _ _ _ _ _ _ _ _ _ _ _ _ _ _ _ _ _ _ _ _ _ _ _ _ HNG.out
  have k6 : decide (1 ≤ tr) = true := decide_eq_true h6
  by_cases h7 : tr ≤ 1000
  case neg =>
    have k7 : decide (tr ≤ 1000) = false := decide_eq_false h7
    have hng : (false = true ↔ GoodN st ck tr ni ths.length) := ⟨(fun h => by cases h), fun g => absurd (g.t0.2) h7⟩
    have HNG := hid hng
    clear hng h7
    go_wp2_with fail
    exact HREST.out _ _ _ _ _ _ _ _ _ _ _ _ _ _ _ _ _ _ _ _ _ _ _ _ _ _ _ _ _ _ _ _ _ _ _ _ _ _ _ _ _ _ _ _ _ _ _ _ _ _ HNG.out
  have k7 : decide (tr ≤ 1000) = true := decide_eq_true h7
  by_cases h8 : (ths.length : Int) ≤ 6
  case neg =>
    have k8 : decide ((ths.length : Int) ≤ 6) = false := decide_eq_false h8
    have hng : (false = true ↔ GoodN st ck tr ni ths.length) := ⟨(fun h => by cases h), fun g => absurd (by have := g.l0; omega) h8⟩
    have HNG := hid hng
    clear hng h8
    go_wp2_with fail
    exact HREST.out _ _ _ _ _ _ _ _ _ _ _ _ _ _ _ _ _ _ _ _ _ _ _ _ _ _ _ _ _ _ _ _ _ _ _ _ _ _ _ _ _ _ _ _ _ _ _ _ _ _ HNG.out
  have k8 : decide ((ths.length : Int) ≤ 6) = true := decide_eq_true h8
  have hng : (true = true ↔ GoodN st ck tr ni ths.length) := ⟨fun _ => ⟨by omega, ⟨h2, h3⟩, ⟨h4, h5⟩, ⟨h6, h7⟩, by omega⟩, fun _ => rfl⟩
  have HNG := hid hng
  clear hng h0 h1 h2 h3 h4 h5 h6 h7 h8
  go_wp2_with fail
  exact HREST.out _ _ _ _ _ _ _ _ _ _ _ _ _ _ _ _ _ _ _ _ _ _ _ _ _ _ _ _ _ _ _ _ _ _ _ _ _ _ _ _ _ _ _ _ _ _ _ _ _ _ (by have h := HNG.out; first | exact h | simpa using h)
end Go.Proofs.Ytonckpblbdopmaa
