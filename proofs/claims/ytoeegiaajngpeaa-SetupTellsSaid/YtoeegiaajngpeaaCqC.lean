/-
  Walks: the document's Cost (printed by tools/gen_cqc.py).
-/
import Derived.Test.YtoeegiaajngpeaaCoW2
import Derived.Test.YtoeegiaajngpeaaSuG1
import Derived.Test.YtoeegiaajngpeaaCpD
namespace Go.Proofs.Ytoeegiaajngpeaa
set_option linter.unusedVariables false
set_option linter.unusedSimpArgs false
set_option linter.unusedVariables false
open Go Go.RowKit
theorem costT_append : ∀ (a b : List St) (n : Nat), costT n (a ++ b) = costT (costT n a) b
  | [], b, n => by simp [costT]
  | x :: xs, b, n => by rw [List.cons_append]; simp only [costT]; exact costT_append xs b _
theorem costT_full : ∀ (b : List St), costT 2001 b = 2001
  | [] => by simp [costT]
  | x :: xs => by simp only [costT]; rw [show min (2001 + costS x) 2001 = 2001 by omega]; exact costT_full xs
theorem costT_over {l : List St} {k m : Nat} (h : min m 2001 = costT 0 (l.take k)) (hm : 2000 < m) : costT 0 l = 2001 := by
  have e : l = l.take k ++ l.drop k := (List.take_append_drop k l).symm
  rw [e, costT_append, ← h, show min m 2001 = 2001 by omega]
  exact costT_full _
set_option maxRecDepth 100000 in
set_option maxHeartbeats 4000000 in
theorem rcostT_any (s : Nat) : ∀ (l : List St) (w : World) (v : Value), sizeT l < s → RdTx w l v →
    Calls Try.prog 39 #[v] w fun e' w' => e' = .returned (.int .i64 (costT 0 l : Nat)) ∧ Below w.heap.size w w' := by
  induction s with
  | zero => intro l w v h; omega
  | succ s ih =>
  intro l w v hs hr
  obtain ⟨a, cap, rfl, hlen, hx⟩ := hr
  have IH := hid ih; clear ih
  have HS := hid hs; clear hs
  have HX := hid hx; clear hx
  go_enter Try.func39, Try.ntmps39
  go_wp2_with fail
  go_loopw [3, 4] (fun n i wr => ∃ (k m : Nat), k ≤ l.length ∧ i = .int .i64 k ∧ n = .int .i64 (m : Nat) ∧ Hid (min m 2001 = costT 0 (l.take k)) ∧ Hid (m ≤ 100000) ∧ Hid (Below w.heap.size w wr)) (fun _ i _ => l.length - (intOf i).toNat)
  case atStart => exact ⟨0, 0, Nat.zero_le _, rfl, rfl, hid (by simp [costT]), hid (by omega), hid (ext_refl _)⟩
  case round =>
    obtain ⟨k, m, hk, rfl, rfl, HMK, HMB, HB⟩ := hrel
    have hmb := HMB.out
    by_cases hov : 2000 < m
    · -- enough
      have HR := hid (costT_over HMK.out hov)
      have o1 : decide ((m : Int) ≤ 2000) = false := decide_eq_false (by omega)
      have o1n : decide (m ≤ 2000) = false := decide_eq_false (by omega)
      have o2 : decide (2000 < (m : Int)) = true := decide_eq_true (by omega)
      have o2n : decide (2000 < m) = true := decide_eq_true (by omega)
      by_cases hlt : k < l.length
      · have j1 : decide ((k : Int) < (l.length : Int)) = true := by rw [decide_eq_true_iff]; omega
        have j1n : decide (k < l.length) = true := decide_eq_true hlt
        go_wp2_with fail
        go_ret
        exact ⟨by rw [HR.out]; rfl, HB.out⟩
      · have j1 : decide ((k : Int) < (l.length : Int)) = false := by rw [decide_eq_false_iff_not]; omega
        have j1n : decide (k < l.length) = false := decide_eq_false hlt
        go_wp2_with fail
        go_ret
        exact ⟨by rw [HR.out]; rfl, HB.out⟩
    have o1 : decide ((m : Int) ≤ 2000) = true := decide_eq_true (by omega)
    have o1n : decide (m ≤ 2000) = true := decide_eq_true (by omega)
    have o2 : decide (2000 < (m : Int)) = false := decide_eq_false (by omega)
    have o2n : decide (2000 < m) = false := decide_eq_false (by omega)
    by_cases hlt : k < l.length
    · obtain ⟨q, off, rfl, hrd⟩ := HX.out (by intro h; subst h; simp at hlt)
      obtain ⟨pa, ca, pb, cb, po, co, pe, ce, e0, e1, e2, e3, e4, e5, e6, e7, e8, e9, hst⟩ := hrd.get10 k hlt
      have hle := sizeT_get l k hlt
      have HT := hid (costT_take l 0 k hlt)
      have HLT := hid hlt
      have j1 : decide ((k : Int) < (l.length : Int)) = true := by rw [decide_eq_true_iff]; omega
      have j1n : decide (k < l.length) = true := decide_eq_true hlt
      have j3 : IntKind.i64.wrap ((k : Int) + 1) = (k : Int) + 1 := IntWalk.i64_in _ (by omega)
      generalize hxx : l[k]'hlt = x at e0 e1 e2 e3 e4 e5 e6 e7 e8 e9 hst hle HT
      clear hxx
      obtain ⟨-, -, -, -, g3, g4⟩ := hst.shape
      have hb := HB.out
      have d0 := later hb e0
      have d1 := later hb e1
      have d2 := later hb e2
      have d3 := later hb e3
      have d4 := later hb e4
      have d5 := later hb e5
      have d6 := later hb e6
      have d7 := later hb e7
      have d8 := later hb e8
      have d9 := later hb e9
      have hbl := lt_of_cell d0
      have hs1 := sizeS_body x
      have hs2 := sizeS_els x
      have hss := HS.out
      have hc1 := costT_le x.body 0 (by omega)
      have hc2 := costT_le x.els 0 (by omega)
      have HC1 := hid (fun w h => IH.out x.body w (.slice po x.body.length co) (by omega) h)
      have HC2 := hid (fun w h => IH.out x.els w (.slice pe x.els.length ce) (by omega) h)
      have HP := hid (costS_parts x)
      generalize hkd : x.kind = kd at d0 HP
      clear hkd e0 e1 e2 e3 e4 e5 e6 e7 e8 e9 hle hs1 hs2 hss hrd hst
      obtain ⟨WB, hWB⟩ : ∃ WB, WB = wr.alloc (.cells #[.int .u8 kd, .int .i64 x.to, .int .u8 x.a.op, .int .i64 x.a.n, .slice pa x.a.args.length ca, .int .u8 x.b.op, .int .i64 x.b.n, .slice pb x.b.args.length cb, .slice po x.body.length co, .slice pe x.els.length ce] 42) := ⟨_, rfl⟩
      have HWB := hid hWB
      have HBKW : Hid (Blk WB wr.heap.size #[.int .u8 kd, .int .i64 x.to, .int .u8 x.a.op, .int .i64 x.a.n, .slice pa x.a.args.length ca, .int .u8 x.b.op, .int .i64 x.b.n, .slice pb x.b.args.length cb, .slice po x.body.length co, .slice pe x.els.length ce] 42) := hid (by rw [hWB]; exact Blk.new _ _ _)
      have hwb : Below wr.heap.size wr WB := by rw [hWB]; exact ext_alloc (ext_refl _) _
      have HAW : Hid (Below w.heap.size w WB) := hid (ext_trans hb hwb)
      have HG3W := hid (g3.below HAW.out)
      have HG4W := hid (g4.below HAW.out)
      have s1 : IntKind.i64.wrap ((m : Int) + 1) = (m : Int) + 1 := IntWalk.i64_in _ (by omega)
      clear hWB hwb g3 g4 hb
      generalize costT 0 x.body = x1 at *
      generalize costT 0 x.els = x2 at *
      by_cases k4 : kd = 4
      · subst k4
        have HM : Hid (costS x = 1 + max x1 x2) := hid (by rw [HP.out, if_pos rfl])
        go_wp2_with fail
        rw [← HWB.out]
        apply wp_region_then 6 (fun i y _ => y = ([.pointer (some ⟨wr.heap.size, 8, none⟩), .slice po x.body.length co, .int .i64 (x1 : Int), .pointer (some ⟨wr.heap.size, 9, none⟩), .slice pe x.els.length ce, .int .i64 (x2 : Int)] : List Value).getD i undef) (fun w' => Below WB.heap.size WB w') (fun w1 w2 => Below w1.heap.size w1 w2)
            (fun i vs w' => match i with
              | 6 => Below WB.heap.size WB w' ∧ vs 2 = .int .i64 (x1 : Int) ∧ vs 5 = .int .i64 (x2 : Int)
              | 7 => Below WB.heap.size WB w' ∧ vs 2 = .int .i64 (x1 : Int) ∧ vs 5 = .int .i64 (x2 : Int) ∧ vs 6 = .int .i64 (x1 : Int)
              | 8 => Below WB.heap.size WB w' ∧ vs 2 = .int .i64 (x1 : Int) ∧ vs 5 = .int .i64 (x2 : Int) ∧ vs 6 = .int .i64 (x1 : Int) ∧ vs 7 = .int .i64 (x2 : Int)
              | _ => False)
        focus (intro vals; simp [putAll, dstOf, Act.put, List.getD]; rfl)
        case hm => kernel_rfl
        case hd => kernel_rfl
        case hb => kernel_rfl
        case hng => kernel_rfl
        case hsz => kernel_rfl
        case hN => rfl
        case htail => kernel_rfl
        case hstab => intro i y w1 w2 h hb; exact h
        case h0 => exact ext_drew (ext_refl _)
        case hstart => exact fun vs w' hG hV => ⟨hG, hV 2 (by omega), hV 5 (by omega)⟩
        case hstepA =>
          refine ⟨?_, ?_, ?_, ?_, ?_, ?_, trivial⟩
          all_goals (
            refine ⟨(fun g b h => by cases h), fun w' hG hg ρ h1 h2 h3 h4 h5 => ?_⟩
            have hG := hid hG)
          · have f5 : ρ (.tmp 5) = .pointer (some ⟨wr.heap.size, 0, none⟩) := h5 5 (by kernel_rfl)
            clear h4 h5
            unfold OpY
            go_simp
            exact ⟨rfl, hG.out, ext_refl _⟩
          · have f27 : ρ (.tmp 27) = .pointer (some ⟨wr.heap.size, 8, none⟩) := h4 0 27 (by kernel_rfl) (by kernel_rfl)
            have y1 := (HBKW.out.below hG.out).cell 8 rfl
            clear h4 h5
            unfold OpY
            go_simp
            exact ⟨rfl, hG.out, ext_refl _⟩
          · have f28 : ρ (.tmp 28) = .slice po x.body.length co := h4 1 28 (by kernel_rfl) (by kernel_rfl)
            clear h4 h5
            unfold OpY
            go_simp
            unfold OpR
            refine (HC1.out _ (HG3W.out.below hG.out)).mono ?_
            rintro e' w2 ⟨rfl, hb⟩
            exact ⟨_, rfl, rfl, ext_trans hG.out hb, hb⟩
          · have f5 : ρ (.tmp 5) = .pointer (some ⟨wr.heap.size, 0, none⟩) := h5 5 (by kernel_rfl)
            clear h4 h5
            unfold OpY
            go_simp
            exact ⟨rfl, hG.out, ext_refl _⟩
          · have f30 : ρ (.tmp 30) = .pointer (some ⟨wr.heap.size, 9, none⟩) := h4 3 30 (by kernel_rfl) (by kernel_rfl)
            have y1 := (HBKW.out.below hG.out).cell 9 rfl
            clear h4 h5
            unfold OpY
            go_simp
            exact ⟨rfl, hG.out, ext_refl _⟩
          · have f31 : ρ (.tmp 31) = .slice pe x.els.length ce := h4 4 31 (by kernel_rfl) (by kernel_rfl)
            clear h4 h5
            unfold OpY
            go_simp
            unfold OpR
            refine (HC2.out _ (HG4W.out.below hG.out)).mono ?_
            rintro e' w2 ⟨rfl, hb⟩
            exact ⟨_, rfl, rfl, ext_trans hG.out hb, hb⟩
        case hstepB =>
          refine ⟨?_, ?_, trivial⟩
          · refine ⟨rfl, fun vs w' hS ρ h1 h2 h3 h4 h5 => ?_⟩
            obtain ⟨hG, q2, q5⟩ := hS
            have f := (h4 2 29 (by kernel_rfl) (by kernel_rfl)).trans q2
            have HhG := hid hG
            have Hq2 := hid q2
            have Hq5 := hid q5
            clear h4 h5 hG q2 q5
            unfold OpY
            go_simp
            exact ⟨HhG.out, by simpa [doneV] using Hq2.out, by simpa [doneV] using Hq5.out, by simp [doneV]⟩
          · refine ⟨rfl, fun vs w' hS ρ h1 h2 h3 h4 h5 => ?_⟩
            obtain ⟨hG, q2, q5, p6⟩ := hS
            have f := (h4 5 32 (by kernel_rfl) (by kernel_rfl)).trans q5
            have HhG := hid hG
            have Hq2 := hid q2
            have Hq5 := hid q5
            have Hp6 := hid p6
            clear h4 h5 hG q2 q5 p6
            unfold OpY
            go_simp
            exact ⟨HhG.out, by simpa [doneV] using Hq2.out, by simpa [doneV] using Hq5.out, by simpa [doneV] using Hp6.out, by simp [doneV]⟩
        case hdone =>
          intro vals w' hS
          obtain ⟨hG, -, -, p6, p7⟩ := hS
          have HG := hid hG
          rw [p6, p7]
          clear hG p6 p7
          have c0 := (HBKW.out.below HG.out).cell 0 (v := .int .u8 4) rfl
          have cl := lt_of_cell c0
          by_cases hx : x1 < x2
          · have y1 : decide ((x1 : Int) < (x2 : Int)) = true := decide_eq_true (by omega)
            have y1n : decide (x1 < x2) = true := decide_eq_true hx
            have y2 : IntKind.i64.wrap ((m : Int) + 1 + (x2 : Int)) = (m : Int) + 1 + (x2 : Int) := IntWalk.i64_in _ (by omega)
            go_wp2_with fail
            go_roundw
            case rel => exact ⟨k + 1, m + 1 + x2, HLT.out, by go_num, by first | rfl | (congr 1; omega) | go_num, hid (by rw [HT.out, HM.out, ← HMK.out]; omega), hid (by omega), hid (ext_trans HAW.out HG.out)⟩
            case measure => have := HLT.out; simp [intOf]; omega
          · have y1 : decide ((x1 : Int) < (x2 : Int)) = false := decide_eq_false (by omega)
            have y1n : decide (x1 < x2) = false := decide_eq_false hx
            have y2 : IntKind.i64.wrap ((m : Int) + 1 + (x1 : Int)) = (m : Int) + 1 + (x1 : Int) := IntWalk.i64_in _ (by omega)
            go_wp2_with fail
            go_roundw
            case rel => exact ⟨k + 1, m + 1 + x1, HLT.out, by go_num, by first | rfl | (congr 1; omega) | go_num, hid (by rw [HT.out, HM.out, ← HMK.out]; omega), hid (by omega), hid (ext_trans HAW.out HG.out)⟩
            case measure => have := HLT.out; simp [intOf]; omega
      · have g4 : (kd == 4) = false := beq_eq_false_iff_ne.2 k4
        by_cases k5 : kd = 5
        · subst k5
          have HM : Hid (costS x = 1 + 8 * x1) := hid (by rw [HP.out]; rfl)
          have y2 : IntKind.i64.wrap (8 * (x1 : Int)) = 8 * (x1 : Int) := IntWalk.i64_in _ (by omega)
          have y3 : IntKind.i64.wrap ((m : Int) + 1 + 8 * (x1 : Int)) = (m : Int) + 1 + 8 * (x1 : Int) := IntWalk.i64_in _ (by omega)
          go_wp2_with fail
          rw [← HWB.out]
          refine (HC1.out _ HG3W.out).mono ?_
          rintro e' w2 ⟨rfl, hb2⟩
          have HG := hid hb2
          have c0 := (HBKW.out.below hb2).cell 0 (v := .int .u8 5) rfl
          have cl := lt_of_cell c0
          clear hb2
          go_wp2_with fail
          go_roundw
          case rel => exact ⟨k + 1, m + 1 + 8 * x1, HLT.out, by go_num, by first | rfl | (congr 1; omega) | go_num, hid (by rw [HT.out, HM.out, ← HMK.out]; omega), hid (by omega), hid (ext_trans HAW.out HG.out)⟩
          case measure => have := HLT.out; simp [intOf]; omega
        · have g5 : (kd == 5) = false := beq_eq_false_iff_ne.2 k5
          by_cases k7 : kd = 7
          · subst k7
            have HM : Hid (costS x = 1 + (x1 + x2)) := hid (by rw [HP.out]; rfl)
            go_wp2_with fail
            rw [← HWB.out]
            apply wp_region_then 9 (fun i y _ => y = ([.int .i64 ((m + 1 : Nat) : Int), .pointer (some ⟨wr.heap.size, 8, none⟩), .slice po x.body.length co, .int .i64 (x1 : Int), .int .i64 ((m + 1 + x1 : Nat) : Int), .pointer (some ⟨wr.heap.size, 9, none⟩), .slice pe x.els.length ce, .int .i64 (x2 : Int), .int .i64 ((m + 1 + x1 + x2 : Nat) : Int)] : List Value).getD i undef) (fun w' => Below WB.heap.size WB w') (fun w1 w2 => Below w1.heap.size w1 w2)
                (fun i vs w' => match i with
                  | 9 => Below WB.heap.size WB w' ∧ vs 8 = .int .i64 ((m + 1 + x1 + x2 : Nat) : Int)
                  | 10 => Below WB.heap.size WB w' ∧ vs 8 = .int .i64 ((m + 1 + x1 + x2 : Nat) : Int) ∧ vs 9 = .int .i64 ((m + 1 + x1 + x2 : Nat) : Int)
                  | _ => False)
            focus (intro vals; simp [putAll, dstOf, Act.put, List.getD]; rfl)
            case hm => kernel_rfl
            case hd => kernel_rfl
            case hb => kernel_rfl
            case hng => kernel_rfl
            case hsz => kernel_rfl
            case hN => rfl
            case htail => kernel_rfl
            case hstab => intro i y w1 w2 h hb; exact h
            case h0 => exact ext_drew (ext_refl _)
            case hstart => exact fun vs w' hG hV => ⟨hG, hV 8 (by omega)⟩
            case hstepA =>
              refine ⟨?_, ?_, ?_, ?_, ?_, ?_, ?_, ?_, ?_, trivial⟩
              all_goals (
                refine ⟨(fun g b h => by cases h), fun w' hG hg ρ h1 h2 h3 h4 h5 => ?_⟩
                have hG := hid hG)
              · have f3 : ρ (.tmp 3) = .int .i64 ((m + 1 : Nat) : Int) := h5 3 (by kernel_rfl)
                clear h4 h5
                unfold OpY
                go_simp
                exact ⟨rfl, hG.out, ext_refl _⟩
              · have f5 : ρ (.tmp 5) = .pointer (some ⟨wr.heap.size, 0, none⟩) := h5 5 (by kernel_rfl)
                clear h4 h5
                unfold OpY
                go_simp
                exact ⟨rfl, hG.out, ext_refl _⟩
              · have f53 : ρ (.tmp 53) = .pointer (some ⟨wr.heap.size, 8, none⟩) := h4 1 53 (by kernel_rfl) (by kernel_rfl)
                have y1 := (HBKW.out.below hG.out).cell 8 rfl
                clear h4 h5
                unfold OpY
                go_simp
                exact ⟨rfl, hG.out, ext_refl _⟩
              · have f54 : ρ (.tmp 54) = .slice po x.body.length co := h4 2 54 (by kernel_rfl) (by kernel_rfl)
                clear h4 h5
                unfold OpY
                go_simp
                unfold OpR
                refine (HC1.out _ (HG3W.out.below hG.out)).mono ?_
                rintro e' w2 ⟨rfl, hb⟩
                exact ⟨_, rfl, rfl, ext_trans hG.out hb, hb⟩
              · have f52 : ρ (.tmp 52) = .int .i64 ((m + 1 : Nat) : Int) := h4 0 52 (by kernel_rfl) (by kernel_rfl)
                have f55 : ρ (.tmp 55) = .int .i64 (x1 : Int) := h4 3 55 (by kernel_rfl) (by kernel_rfl)
                have s1 : IntKind.i64.wrap (((m + 1 : Nat) : Int) + (x1 : Int)) = ((m + 1 + x1 : Nat) : Int) := (IntWalk.i64_in _ (by omega)).trans (by omega)
                clear h4 h5
                unfold OpY
                go_simp
                exact ⟨by first | rfl | (congr 1 <;> first | omega | exact IntWalk.i64_in _ (by omega)), hG.out, ext_refl _⟩
              · have f5 : ρ (.tmp 5) = .pointer (some ⟨wr.heap.size, 0, none⟩) := h5 5 (by kernel_rfl)
                clear h4 h5
                unfold OpY
                go_simp
                exact ⟨rfl, hG.out, ext_refl _⟩
              · have f57 : ρ (.tmp 57) = .pointer (some ⟨wr.heap.size, 9, none⟩) := h4 5 57 (by kernel_rfl) (by kernel_rfl)
                have y1 := (HBKW.out.below hG.out).cell 9 rfl
                clear h4 h5
                unfold OpY
                go_simp
                exact ⟨rfl, hG.out, ext_refl _⟩
              · have f58 : ρ (.tmp 58) = .slice pe x.els.length ce := h4 6 58 (by kernel_rfl) (by kernel_rfl)
                clear h4 h5
                unfold OpY
                go_simp
                unfold OpR
                refine (HC2.out _ (HG4W.out.below hG.out)).mono ?_
                rintro e' w2 ⟨rfl, hb⟩
                exact ⟨_, rfl, rfl, ext_trans hG.out hb, hb⟩
              · have f56 : ρ (.tmp 56) = .int .i64 ((m + 1 + x1 : Nat) : Int) := h4 4 56 (by kernel_rfl) (by kernel_rfl)
                have f59 : ρ (.tmp 59) = .int .i64 (x2 : Int) := h4 7 59 (by kernel_rfl) (by kernel_rfl)
                have s1 : IntKind.i64.wrap (((m + 1 + x1 : Nat) : Int) + (x2 : Int)) = ((m + 1 + x1 + x2 : Nat) : Int) := (IntWalk.i64_in _ (by omega)).trans (by omega)
                clear h4 h5
                unfold OpY
                go_simp
                exact ⟨by first | rfl | (congr 1 <;> first | omega | exact IntWalk.i64_in _ (by omega)), hG.out, ext_refl _⟩
            case hstepB =>
              refine ⟨?_, trivial⟩
              · refine ⟨rfl, fun vs w' hS ρ h1 h2 h3 h4 h5 => ?_⟩
                obtain ⟨hG, q8⟩ := hS
                have f := (h4 8 60 (by kernel_rfl) (by kernel_rfl)).trans q8
                have HhG := hid hG
                have Hq8 := hid q8
                clear h4 h5 hG q8
                unfold OpY
                go_simp
                exact ⟨HhG.out, by simpa [doneV] using Hq8.out, by simp [doneV]⟩
            case hdone =>
              intro vals w' hS
              obtain ⟨hG, -, p9⟩ := hS
              have HG := hid hG
              rw [p9]
              clear hG p9
              go_wp2_with fail
              go_roundw
              case rel => exact ⟨k + 1, m + 1 + x1 + x2, HLT.out, by go_num, by first | rfl | (congr 1; omega) | go_num, hid (by rw [HT.out, HM.out, ← HMK.out]; omega), hid (by omega), hid (ext_trans HAW.out HG.out)⟩
              case measure => have := HLT.out; simp [intOf]; omega
          · have g7 : (kd == 7) = false := beq_eq_false_iff_ne.2 k7
            have HM : Hid (costS x = 1) := hid (by rw [HP.out, if_neg k4, if_neg k5, if_neg k7])
            have HG := hid (ext_refl WB)
            go_wp2_with fail
            rw [← HWB.out]
            go_roundw
            case rel => exact ⟨k + 1, m + 1, HLT.out, by go_num, by first | rfl | (congr 1; omega) | go_num, hid (by rw [HT.out, HM.out, ← HMK.out]; omega), hid (by omega), hid (ext_trans HAW.out HG.out)⟩
            case measure => have := HLT.out; simp [intOf]; omega
    · obtain rfl : k = l.length := by omega
      have j1 : decide ((l.length : Int) < (l.length : Int)) = false := by rw [decide_eq_false_iff_not]; omega
      have j1n : decide (l.length < l.length) = false := by simp
      have HR : Hid (costT 0 l = m) := hid (by have := HMK.out; rw [List.take_length] at this; omega)
      go_wp2_with fail
      go_ret
      exact ⟨by rw [HR.out]; rfl, HB.out⟩
end Go.Proofs.Ytoeegiaajngpeaa
