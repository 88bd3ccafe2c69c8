/-
  Walks: code.Cost.
-/
import Derived.Test.YtoeegiaajngpeaaCoW1
import Derived.Test.YtoeegiaajngpeaaSuG1
import Derived.Deep.DeepCutAuto
import Derived.Deep.CutBlock
namespace Go.Proofs.Ytoeegiaajngpeaa
set_option linter.unusedVariables false
set_option linter.unusedSimpArgs false
set_option linter.unusedVariables false
open Go Go.RowKit
theorem costS_parts (s : St) : costS s = 1 + (if s.kind = 4 then max (costT 0 s.body) (costT 0 s.els) else if s.kind = 5 then 8 * costT 0 s.body else if s.kind = 7 then costT 0 s.body + costT 0 s.els else 0) := by
  cases s; rfl
set_option maxRecDepth 100000 in
set_option maxHeartbeats 4000000 in
theorem cost_any (s : Nat) : ∀ (l : List St) (w : World) (v : Value), sizeT l < s → RdTx w l v →
    Calls Try.prog 26 #[v] w fun e' w' => e' = .returned (.int .i64 (costT 0 l : Nat)) ∧ Below w.heap.size w w' := by
  induction s with
  | zero => intro l w v h; omega
  | succ s ih =>
  intro l w v hs hr
  obtain ⟨a, cap, rfl, hlen, hx⟩ := hr
  have IH := hid ih; clear ih
  have HS := hid hs; clear hs
  have HX := hid hx; clear hx
  go_enter Try.func26, Try.ntmps26
  go_wp2_with fail
  go_loopw [3, 9] (fun n i wr => ∃ k : Nat, k ≤ l.length ∧ i = .int .i64 k ∧ n = .int .i64 (costT 0 (l.take k) : Nat) ∧ Hid (Below w.heap.size w wr)) (fun _ i _ => l.length - (intOf i).toNat)
  case atStart => exact ⟨0, Nat.zero_le _, rfl, by simp [costT], hid (ext_refl _)⟩
  case round =>
    obtain ⟨k, hk, rfl, rfl, HB⟩ := hrel
    by_cases hlt : k < l.length
    · obtain ⟨q, off, rfl, hrd⟩ := HX.out (by intro h; subst h; simp at hlt)
      obtain ⟨a0, a1, a2, b0, b1, b2, p, c1, p', c2, e0, e1, e2, e3, e4, e5, e6, e7, e8, e9, ga, gb, g3, g4⟩ := hrd.get' k hlt
      have hle := sizeT_get l k hlt
      have HT := hid (costT_take l 0 k hlt)
      have HLT := hid hlt
      generalize hxx : l[k]'hlt = x at e0 e1 e8 e9 ga gb g3 g4 hle HT
      clear hxx
      obtain ⟨pa, ca, rfl, rfl, rfl⟩ := ga.shape
      obtain ⟨pb, cb, rfl, rfl, rfl⟩ := gb.shape
      clear ga gb
      have hb := HB.out
      have d0 := later hb e0
      have d1 := later hb e1
      have d2 := later hb e2
      have d3 := later hb e3
      have d4 := later hb e4
      have d5 := later hb e5
      have d6 := later hb e6
      have d7 := later hb e7
      have d8 := later hb e8
      have d9 := later hb e9
      have hbl := lt_of_cell d0
      have hA1 := ext_alloc (ext_refl wr) (.cells #[.int .u8 x.kind, .int .i64 x.to, .int .u8 x.a.op, .int .i64 x.a.n, .slice pa x.a.args.length ca, .int .u8 x.b.op, .int .i64 x.b.n, .slice pb x.b.args.length cb, .slice p x.body.length c1, .slice p' x.els.length c2] 42)
      have HBK := hid (Blk.new wr #[.int .u8 x.kind, .int .i64 x.to, .int .u8 x.a.op, .int .i64 x.a.n, .slice pa x.a.args.length ca, .int .u8 x.b.op, .int .i64 x.b.n, .slice pb x.b.args.length cb, .slice p x.body.length c1, .slice p' x.els.length c2] 42)
      have HG3 := hid (g3.below (ext_trans hb hA1))
      have HG4 := hid (g4.below (ext_trans hb hA1))
      have hs1 := sizeS_body x
      have hs2 := sizeS_els x
      have HB1 := hid (show sizeT x.body < s by have := HS.out; omega)
      have HB2 := hid (show sizeT x.els < s by have := HS.out; omega)
      have HP := hid (costS_parts x)
      have hc1 := costT_le x.body 0 (by omega)
      have hc2 := costT_le x.els 0 (by omega)
      have hs0 := costT_le (l.take k) 0 (by omega)
      have HC1 := hid (fun w h => IH.out x.body w (.slice p x.body.length c1) HB1.out h)
      have HC2 := hid (fun w h => IH.out x.els w (.slice p' x.els.length c2) HB2.out h)
      have HA := hid (ext_trans hb hA1)
      clear e0 e1 e2 e3 e4 e5 e6 e7 e8 e9 g3 g4 hle hs1 hs2 hrd
      generalize hkd : x.kind = kd at *
      generalize costT 0 x.body = x1 at *
      generalize costT 0 x.els = x2 at *
      generalize costT 0 (l.take k) = sm at *
      have HKD := hid hkd
      clear hkd
      obtain ⟨WB, hWB⟩ : ∃ WB, WB = wr.alloc (.cells #[.int .u8 kd, .int .i64 x.to, .int .u8 x.a.op, .int .i64 x.a.n, .slice pa x.a.args.length ca, .int .u8 x.b.op, .int .i64 x.b.n, .slice pb x.b.args.length cb, .slice p x.body.length c1, .slice p' x.els.length c2] 42) := ⟨_, rfl⟩
      have HWB := hid hWB
      have HBKW : Hid (Blk WB wr.heap.size #[.int .u8 kd, .int .i64 x.to, .int .u8 x.a.op, .int .i64 x.a.n, .slice pa x.a.args.length ca, .int .u8 x.b.op, .int .i64 x.b.n, .slice pb x.b.args.length cb, .slice p x.body.length c1, .slice p' x.els.length c2] 42) := hid (by rw [HWB.out]; exact HBK.out)
      have HG3W : Hid (RdTx WB x.body (.slice p x.body.length c1)) := hid (by rw [HWB.out]; exact HG3.out)
      have HG4W : Hid (RdTx WB x.els (.slice p' x.els.length c2)) := hid (by rw [HWB.out]; exact HG4.out)
      have HAW : Hid (Below w.heap.size w WB) := hid (by rw [HWB.out]; exact HA.out)
      clear hWB HBK HG3 HG4 HA
      by_cases k4 : kd = 4
      · subst k4
        have HM : Hid (costS x = 1 + max x1 x2) := hid (by rw [HP.out, if_pos rfl])
        go_wp2_with fail
        rw [← HWB.out]
        apply wp_region_known (fun i => ([.pointer (some ⟨wr.heap.size, 8, none⟩), .slice p x.body.length c1, .int .i64 (x1 : Int), .pointer (some ⟨wr.heap.size, 9, none⟩), .slice p' x.els.length c2, .int .i64 (x2 : Int), .int .i64 ((max x1 x2 : Nat) : Int), .int .i64 ((max x1 x2 : Nat) : Int)] : List Value).getD i undef) (fun w' => Below WB.heap.size WB w')
        focus (simp [putAll, dstOf, Act.put, List.getD]; rfl)
        case hm => kernel_rfl
        case hd => kernel_rfl
        case hb => kernel_rfl
        case hng => kernel_rfl
        case hsz => kernel_rfl
        case h0 => exact ext_drew (ext_refl _)
        case hstep =>
          refine ⟨?_, ?_, ?_, ?_, ?_, ?_, ?_, ?_, trivial⟩
          all_goals (
            refine ⟨(fun g b h => by cases h), fun w' hG hg ρ h1 h2 h3 h4 h5 => ?_⟩
            have hG := hid hG)
          · have f1 := h5 5 (by kernel_rfl)
            clear h4 h5
            unfold OpY
            go_simp
            exact ⟨rfl, hG.out⟩
          · have f1 : ρ (.tmp 17) = _ := h4 0 17 (by kernel_rfl) (by kernel_rfl)
            have y1 := (HBKW.out.below hG.out).cell 8 rfl
            clear h4 h5
            unfold OpY
            go_simp
            exact ⟨rfl, hG.out⟩
          · have f1 : ρ (.tmp 18) = _ := h4 1 18 (by kernel_rfl) (by kernel_rfl)
            clear h4 h5
            unfold OpY
            go_simp
            unfold OpR
            refine (HC1.out _ (HG3W.out.below hG.out)).mono ?_
            rintro e' w2 ⟨rfl, hb⟩
            exact ⟨_, rfl, rfl, ext_trans hG.out hb⟩
          · have f1 := h5 5 (by kernel_rfl)
            clear h4 h5
            unfold OpY
            go_simp
            exact ⟨rfl, hG.out⟩
          · have f1 : ρ (.tmp 20) = _ := h4 3 20 (by kernel_rfl) (by kernel_rfl)
            have y1 := (HBKW.out.below hG.out).cell 9 rfl
            clear h4 h5
            unfold OpY
            go_simp
            exact ⟨rfl, hG.out⟩
          · have f1 : ρ (.tmp 21) = _ := h4 4 21 (by kernel_rfl) (by kernel_rfl)
            clear h4 h5
            unfold OpY
            go_simp
            unfold OpR
            refine (HC2.out _ (HG4W.out.below hG.out)).mono ?_
            rintro e' w2 ⟨rfl, hb⟩
            exact ⟨_, rfl, rfl, ext_trans hG.out hb⟩
          · have f1 : ρ (.tmp 19) = .int .i64 (x1 : Int) := h4 2 19 (by kernel_rfl) (by kernel_rfl)
            have f2 : ρ (.tmp 22) = .int .i64 (x2 : Int) := h4 5 22 (by kernel_rfl) (by kernel_rfl)
            clear h4 h5
            unfold OpY
            go_simp
            unfold OpR
            exact ⟨by congr 1; split <;> omega, hG.out⟩
          · have f1 : ρ (.tmp 23) = _ := h4 6 23 (by kernel_rfl) (by kernel_rfl)
            clear h4 h5
            unfold OpY
            go_simp
            exact ⟨rfl, hG.out⟩
        case hdone =>
          intro w' hG
          have HG := hid hG
          clear hG
          go_wp2_with fail
          go_roundw
          case rel => exact ⟨k + 1, HLT.out, by go_num, (by rw [HT.out, HM.out]; congr 1; split <;> omega), hid (ext_trans HAW.out HG.out)⟩
          case measure => have := HLT.out; simp [intOf]; omega
      · have g4 : (kd == 4) = false := beq_eq_false_iff_ne.2 k4
        by_cases k5 : kd = 5
        · subst k5
          have HM : Hid (costS x = 1 + 8 * x1) := hid (by rw [HP.out]; rfl)
          go_wp2_with fail
          rw [← HWB.out]
          refine (HC1.out _ HG3W.out).mono ?_
          rintro e' w2 ⟨rfl, hb2⟩
          have HG := hid hb2
          clear hb2
          go_wp2_with fail
          all_goals
            go_roundw
            case rel => exact ⟨k + 1, HLT.out, by go_num, (by rw [HT.out, HM.out]; first | (congr 1; omega) | (congr 1; split <;> omega)), hid (ext_trans HAW.out HG.out)⟩
            case measure => have := HLT.out; simp [intOf]; omega
        · have g5 : (kd == 5) = false := beq_eq_false_iff_ne.2 k5
          by_cases k7 : kd = 7
          · subst k7
            have HM : Hid (costS x = 1 + (x1 + x2)) := hid (by rw [HP.out]; rfl)
            go_wp2_with fail
            rw [← HWB.out]
            apply wp_region_known (fun i => ([.pointer (some ⟨wr.heap.size, 8, none⟩), .slice p x.body.length c1, .int .i64 (x1 : Int), .pointer (some ⟨wr.heap.size, 9, none⟩), .slice p' x.els.length c2, .int .i64 (x2 : Int), .int .i64 ((x1 + x2 : Nat) : Int), .int .i64 ((x1 + x2 : Nat) : Int)] : List Value).getD i undef) (fun w' => Below WB.heap.size WB w')
            focus (simp [putAll, dstOf, Act.put, List.getD]; rfl)
            case hm => kernel_rfl
            case hd => kernel_rfl
            case hb => kernel_rfl
            case hng => kernel_rfl
            case hsz => kernel_rfl
            case h0 => exact ext_drew (ext_refl _)
            case hstep =>
              refine ⟨?_, ?_, ?_, ?_, ?_, ?_, ?_, ?_, trivial⟩
              all_goals (
                refine ⟨(fun g b h => by cases h), fun w' hG hg ρ h1 h2 h3 h4 h5 => ?_⟩
                have hG := hid hG)
              · have f1 := h5 5 (by kernel_rfl)
                clear h4 h5
                unfold OpY
                go_simp
                exact ⟨rfl, hG.out⟩
              · have f1 : ρ (.tmp 32) = _ := h4 0 32 (by kernel_rfl) (by kernel_rfl)
                have y1 := (HBKW.out.below hG.out).cell 8 rfl
                clear h4 h5
                unfold OpY
                go_simp
                exact ⟨rfl, hG.out⟩
              · have f1 : ρ (.tmp 33) = _ := h4 1 33 (by kernel_rfl) (by kernel_rfl)
                clear h4 h5
                unfold OpY
                go_simp
                unfold OpR
                refine (HC1.out _ (HG3W.out.below hG.out)).mono ?_
                rintro e' w2 ⟨rfl, hb⟩
                exact ⟨_, rfl, rfl, ext_trans hG.out hb⟩
              · have f1 := h5 5 (by kernel_rfl)
                clear h4 h5
                unfold OpY
                go_simp
                exact ⟨rfl, hG.out⟩
              · have f1 : ρ (.tmp 35) = _ := h4 3 35 (by kernel_rfl) (by kernel_rfl)
                have y1 := (HBKW.out.below hG.out).cell 9 rfl
                clear h4 h5
                unfold OpY
                go_simp
                exact ⟨rfl, hG.out⟩
              · have f1 : ρ (.tmp 36) = _ := h4 4 36 (by kernel_rfl) (by kernel_rfl)
                clear h4 h5
                unfold OpY
                go_simp
                unfold OpR
                refine (HC2.out _ (HG4W.out.below hG.out)).mono ?_
                rintro e' w2 ⟨rfl, hb⟩
                exact ⟨_, rfl, rfl, ext_trans hG.out hb⟩
              · have f1 : ρ (.tmp 34) = .int .i64 (x1 : Int) := h4 2 34 (by kernel_rfl) (by kernel_rfl)
                have f2 : ρ (.tmp 37) = .int .i64 (x2 : Int) := h4 5 37 (by kernel_rfl) (by kernel_rfl)
                clear h4 h5
                unfold OpY
                go_simp
                unfold OpR
                exact ⟨congrArg _ (IntWalk.i64_in _ (by omega)), hG.out⟩
              · have f1 : ρ (.tmp 38) = _ := h4 6 38 (by kernel_rfl) (by kernel_rfl)
                clear h4 h5
                unfold OpY
                go_simp
                exact ⟨rfl, hG.out⟩
            case hdone =>
              intro w' hG
              have HG := hid hG
              clear hG
              go_wp2_with fail
              go_roundw
              case rel => exact ⟨k + 1, HLT.out, by go_num, (by rw [HT.out, HM.out]; congr 1; split <;> omega), hid (ext_trans HAW.out HG.out)⟩
              case measure => have := HLT.out; simp [intOf]; omega
          · have g7 : (kd == 7) = false := beq_eq_false_iff_ne.2 k7
            have HM : Hid (costS x = 1) := hid (by rw [HP.out, if_neg k4, if_neg k5, if_neg k7])
            go_wp2_with fail
            rw [← HWB.out]
            go_roundw
            case rel => exact ⟨k + 1, HLT.out, by go_num, (by rw [HT.out, HM.out]; congr 1; split <;> omega), HAW⟩
            case measure => have := HLT.out; simp [intOf]; omega
    · obtain rfl : k = l.length := by omega
      go_wp2_with fail
      go_ret
      exact ⟨by simp, HB.out⟩
end Go.Proofs.Ytoeegiaajngpeaa
