/-
  Joined texts: CoW1 CoW2 CoW3.
-/
import Derived.Test.YtaklfjjkeebheaaPbV
import Derived.Test.YtaklfjjkeebheaaRows
import Derived.Test.YtaklfjjkeebheaaPbR
import Derived.Deep.DeepCutAuto
import Derived.Deep.CutBlock
import Derived.Test.YtaklfjjkeebheaaPbE
/-
  Walks: code.Depth.
-/
namespace Go.Proofs.Ytaklfjjkeebheaa
set_option linter.unusedVariables false
open Go Go.RowKit

theorem RdSts.get' {w : World} {l : List St} {q off} (h : RdSts w q off l) (n : Nat) (hn : n < l.length) : ∃ a0 a1 a2 b0 b1 b2 p cap p' cap',
    w.cell? ⟨q, off + n * 10, none⟩ = some (.int .u8 l[n].kind) ∧ w.cell? ⟨q, off + n * 10 + 1, none⟩ = some (.int .i64 l[n].to) ∧ w.cell? ⟨q, off + n * 10 + 2, none⟩ = some a0 ∧ w.cell? ⟨q, off + n * 10 + 3, none⟩ = some a1 ∧ w.cell? ⟨q, off + n * 10 + 4, none⟩ = some a2 ∧
      w.cell? ⟨q, off + n * 10 + 5, none⟩ = some b0 ∧ w.cell? ⟨q, off + n * 10 + 6, none⟩ = some b1 ∧ w.cell? ⟨q, off + n * 10 + 7, none⟩ = some b2 ∧ w.cell? ⟨q, off + n * 10 + 8, none⟩ = some (.slice p l[n].body.length cap) ∧ w.cell? ⟨q, off + n * 10 + 9, none⟩ = some (.slice p' l[n].els.length cap') ∧
      RdEx w l[n].a a0 a1 a2 ∧ RdEx w l[n].b b0 b1 b2 ∧ RdTx w l[n].body (.slice p l[n].body.length cap) ∧ RdTx w l[n].els (.slice p' l[n].els.length cap') := by
  obtain ⟨k, t, a0, a1, a2, b0, b1, b2, bo, el, h0, h1, h2, h3, h4, h5, h6, h7, h8, h9, h10⟩ := RdSts.get l h n hn
  obtain ⟨rfl, rfl, g1, g2, g3, g4⟩ := h10.shape
  have g3' := g3
  have g4' := g4
  obtain ⟨p, cap, rfl, -, -⟩ := g3
  obtain ⟨p', cap', rfl, -, -⟩ := g4
  exact ⟨a0, a1, a2, b0, b1, b2, p, cap, p', cap', h0, h1, h2, h3, h4, h5, h6, h7, h8, h9, g1, g2, g3', g4'⟩
theorem depthT_mono : ∀ (l : List St) (n : Nat), n ≤ depthT n l
  | [], n => by unfold depthT; omega
  | x :: xs, n => by unfold depthT; have := depthT_mono xs (max n (depthS x)); omega
theorem depthT_take_le (l : List St) (k : Nat) (h : k < l.length) : depthT 0 (l.take k) ≤ depthT 0 l ∧ depthS l[k] ≤ depthT 0 l := by
  have e : ∀ (a b : List St) (n : Nat), depthT n (a ++ b) = depthT (depthT n a) b := by
    intro a
    induction a with
    | nil => intro b n; rfl
    | cons x xs ih => intro b n; simp only [List.cons_append, depthT]; exact ih b _
  have h1 := e (l.take (k + 1)) (l.drop (k + 1)) 0
  rw [List.take_append_drop, depthT_take l 0 k h] at h1
  have h2 := depthT_mono (l.drop (k + 1)) (max (depthT 0 (l.take k)) (depthS l[k]))
  omega
theorem depthS_parts (s : St) : depthS s = max (if s.body.isEmpty then 0 else depthT 0 s.body + 1) (if s.els.isEmpty then 0 else depthT 0 s.els + 1) := by
  cases s; unfold depthS; rfl

theorem ne_empty {l : List St} (h : 0 < l.length) : l.isEmpty = false := by cases l <;> simp_all
theorem is_empty {l : List St} (h : ¬ 0 < l.length) : l.isEmpty = true := by cases l <;> simp_all
set_option maxRecDepth 100000 in
set_option maxHeartbeats 4000000 in
theorem depth_any (s : Nat) : ∀ (l : List St) (w : World) (v : Value), sizeT l < s → RdTx w l v → depthT 0 l ≤ 1000000 →
    Calls Try.prog 52 #[v] w fun e' w' => e' = .returned (.int .i64 (depthT 0 l + 1 : Nat)) ∧ Below w.heap.size w w' := by
  induction s with
  | zero => intro l w v h; omega
  | succ s ih =>
  intro l w v hs hr hd
  obtain ⟨a, cap, rfl, hlen, hx⟩ := hr
  have IH := hid ih; clear ih
  have HS := hid hs; clear hs
  have HX := hid hx; clear hx
  have HD := hid hd; clear hd
  go_enter Try.func52, Try.ntmps52
  go_wp2_with fail
  go_loopw [3, 8] (fun n i wr => ∃ k : Nat, k ≤ l.length ∧ i = .int .i64 k ∧ n = .int .i64 (depthT 0 (l.take k) : Nat) ∧ Below w.heap.size w wr) (fun _ i _ => l.length - (intOf i).toNat)
  case atStart => exact ⟨0, Nat.zero_le _, rfl, by simp [depthT], ext_refl _⟩
  case round =>
    obtain ⟨k, hk, rfl, rfl, hb⟩ := hrel
    by_cases hlt : k < l.length
    · obtain ⟨q, off, rfl, hrd⟩ := HX.out (by intro h; subst h; simp at hlt)
      obtain ⟨a0, a1, a2, b0, b1, b2, p, c1, p', c2, e0, e1, e2, e3, e4, e5, e6, e7, e8, e9, ga, gb, g3, g4⟩ := hrd.get' k hlt
      obtain ⟨pa, ca, rfl, rfl, rfl⟩ := ga.shape
      obtain ⟨pb, cb, rfl, rfl, rfl⟩ := gb.shape
      clear ga gb
      have d0 := later hb e0
      have d1 := later hb e1
      have d2 := later hb e2
      have d3 := later hb e3
      have d4 := later hb e4
      have d5 := later hb e5
      have d6 := later hb e6
      have d7 := later hb e7
      have d8 := later hb e8
      have d9 := later hb e9
      have hbl := lt_of_cell d0
      have hA := ext_alloc hb (.cells #[.int .u8 l[k].kind, .int .i64 l[k].to, .int .u8 l[k].a.op, .int .i64 l[k].a.n, .slice pa l[k].a.args.length ca, .int .u8 l[k].b.op, .int .i64 l[k].b.n, .slice pb l[k].b.args.length cb, .slice p l[k].body.length c1, .slice p' l[k].els.length c2] 91)
      have HBK := hid (Blk.new wr #[.int .u8 l[k].kind, .int .i64 l[k].to, .int .u8 l[k].a.op, .int .i64 l[k].a.n, .slice pa l[k].a.args.length ca, .int .u8 l[k].b.op, .int .i64 l[k].b.n, .slice pb l[k].b.args.length cb, .slice p l[k].body.length c1, .slice p' l[k].els.length c2] 91)
      have HG3 := hid (g3.below hA)
      have HG4 := hid (g4.below hA)
      have hle := sizeT_get l k hlt
      have hs1 := sizeS_body l[k]
      have hs2 := sizeS_els l[k]
      have HB1 := hid (show sizeT l[k].body < s by have := HS.out; omega)
      have HB2 := hid (show sizeT l[k].els < s by have := HS.out; omega)
      have HT := hid (depthT_take l 0 k hlt)
      have hL := depthT_take_le l k hlt
      have HP := hid (depthS_parts l[k])
      have hn0 : depthT 0 (l.take k) ≤ 1000000 := by have := HD.out; omega
      have HL := hid (show depthS l[k] ≤ 1000000 by have := HD.out; omega)
      clear e0 e1 e2 e3 e4 e5 e6 e7 e8 e9 g3 g4 hle hs1 hs2 hL hrd
      generalize hnb : l[k].body.length = nb at *
      generalize hne : l[k].els.length = ne at *
      by_cases hbo : 0 < nb <;> by_cases hel : 0 < ne
      · have g1 : (0 : Int) < (nb : Int) := by omega
        have g3 : 0 < nb := hbo
        have g2 : (0 : Int) < (ne : Int) := by omega
        have g4 : 0 < ne := hel
        have hS : depthS l[k] = max (depthT 0 l[k].body + 1) (depthT 0 l[k].els + 1) := by
          rw [HP.out, ne_empty (hnb ▸ hbo), ne_empty (hne ▸ hel)]; rfl
        have hD1 : depthT 0 l[k].body ≤ 1000000 := by have := HL.out; omega
        have hD2 : depthT 0 l[k].els ≤ 1000000 := by have := HL.out; omega
        have HSS := hid hS
        clear hS hbo hel hnb hne
        go_wp2_with fail
        refine (IH.out l[k].body _ _ HB1.out HG3.out hD1).mono ?_
        rintro e' w1 ⟨rfl, hb1⟩
        have c9 := later hb1 (HBK.out.cell 9 (v := .slice p' ne c2) rfl)
        have HG5 := hid (HG4.out.below hb1)
        have hA := ext_trans hA hb1
        go_wp2_with fail
        all_goals (
          refine (IH.out l[k].els _ _ HB2.out HG5.out hD2).mono ?_
          rintro e' w2 ⟨rfl, hb2⟩
          have hA := ext_trans hA hb2
          go_wp2_with fail)
        all_goals (
          go_roundw
          case rel => exact ⟨k + 1, hlt, by go_num, (by rw [HT.out, HSS.out]; first | go_num | (congr 1; omega)), hA⟩
          case measure => (simp [intOf]; omega))
      · have g1 : (0 : Int) < (nb : Int) := by omega
        have g3 : 0 < nb := hbo
        have g2 : decide ((0 : Int) < (ne : Int)) = false := by rw [decide_eq_false_iff_not]; omega
        have g4 : decide (0 < ne) = false := decide_eq_false hel
        have hS : depthS l[k] = max (depthT 0 l[k].body + 1) (0) := by
          rw [HP.out, ne_empty (hnb ▸ hbo), is_empty (hne ▸ hel)]; rfl
        have hD1 : depthT 0 l[k].body ≤ 1000000 := by have := HL.out; omega
        have HSS := hid hS
        clear hS hbo hel hnb hne
        go_wp2_with fail
        refine (IH.out l[k].body _ _ HB1.out HG3.out hD1).mono ?_
        rintro e' w1 ⟨rfl, hb1⟩
        have c9 := later hb1 (HBK.out.cell 9 (v := .slice p' ne c2) rfl)
        have HG5 := hid (HG4.out.below hb1)
        have hA := ext_trans hA hb1
        go_wp2_with fail
        all_goals (
          go_roundw
          case rel => exact ⟨k + 1, hlt, by go_num, (by rw [HT.out, HSS.out]; first | go_num | (congr 1; omega)), hA⟩
          case measure => (simp [intOf]; omega))
      · have g1 : decide ((0 : Int) < (nb : Int)) = false := by rw [decide_eq_false_iff_not]; omega
        have g3 : decide (0 < nb) = false := decide_eq_false hbo
        have g2 : (0 : Int) < (ne : Int) := by omega
        have g4 : 0 < ne := hel
        have hS : depthS l[k] = max (0) (depthT 0 l[k].els + 1) := by
          rw [HP.out, is_empty (hnb ▸ hbo), ne_empty (hne ▸ hel)]; rfl
        have hD2 : depthT 0 l[k].els ≤ 1000000 := by have := HL.out; omega
        have HSS := hid hS
        clear hS hbo hel hnb hne
        go_wp2_with fail
        refine (IH.out l[k].els _ _ HB2.out HG4.out hD2).mono ?_
        rintro e' w2 ⟨rfl, hb2⟩
        have hA := ext_trans hA hb2
        go_wp2_with fail
        all_goals (
          go_roundw
          case rel => exact ⟨k + 1, hlt, by go_num, (by rw [HT.out, HSS.out]; first | go_num | (congr 1; omega)), hA⟩
          case measure => (simp [intOf]; omega))
      · have g1 : decide ((0 : Int) < (nb : Int)) = false := by rw [decide_eq_false_iff_not]; omega
        have g3 : decide (0 < nb) = false := decide_eq_false hbo
        have g2 : decide ((0 : Int) < (ne : Int)) = false := by rw [decide_eq_false_iff_not]; omega
        have g4 : decide (0 < ne) = false := decide_eq_false hel
        have hS : depthS l[k] = max (0) (0) := by
          rw [HP.out, is_empty (hnb ▸ hbo), is_empty (hne ▸ hel)]; rfl
        have HSS := hid hS
        clear hS hbo hel hnb hne
        go_wp2_with fail
        all_goals (
          go_roundw
          case rel => exact ⟨k + 1, hlt, by go_num, (by rw [HT.out, HSS.out]; first | go_num | (congr 1; omega)), hA⟩
          case measure => (simp [intOf]; omega))
    · obtain rfl : k = l.length := by omega
      have hn0 : depthT 0 l ≤ 1000000 := HD.out
      go_wp2_with fail
      go_ret
      exact ⟨by simp, hb⟩
end Go.Proofs.Ytaklfjjkeebheaa
/-
  Walks: code.Cost.
-/
namespace Go.Proofs.Ytaklfjjkeebheaa
set_option linter.unusedVariables false
set_option linter.unusedSimpArgs false
set_option linter.unusedVariables false
open Go Go.RowKit
theorem costS_parts (s : St) : costS s = 1 + (if s.kind = 4 then max (costT 0 s.body) (costT 0 s.els) else if s.kind = 5 then 8 * costT 0 s.body else if s.kind = 7 then costT 0 s.body + costT 0 s.els else 0) := by
  cases s; rfl
set_option maxRecDepth 100000 in
set_option maxHeartbeats 4000000 in
theorem cost_any (s : Nat) : ∀ (l : List St) (w : World) (v : Value), sizeT l < s → RdTx w l v →
    Calls Try.prog 53 #[v] w fun e' w' => e' = .returned (.int .i64 (costT 0 l : Nat)) ∧ Below w.heap.size w w' := by
  induction s with
  | zero => intro l w v h; omega
  | succ s ih =>
  intro l w v hs hr
  obtain ⟨a, cap, rfl, hlen, hx⟩ := hr
  have IH := hid ih; clear ih
  have HS := hid hs; clear hs
  have HX := hid hx; clear hx
  go_enter Try.func53, Try.ntmps53
  go_wp2_with fail
  go_loopw [3, 9] (fun n i wr => ∃ k : Nat, k ≤ l.length ∧ i = .int .i64 k ∧ n = .int .i64 (costT 0 (l.take k) : Nat) ∧ Hid (Below w.heap.size w wr)) (fun _ i _ => l.length - (intOf i).toNat)
  case atStart => exact ⟨0, Nat.zero_le _, rfl, by simp [costT], hid (ext_refl _)⟩
  case round =>
    obtain ⟨k, hk, rfl, rfl, HB⟩ := hrel
    by_cases hlt : k < l.length
    · obtain ⟨q, off, rfl, hrd⟩ := HX.out (by intro h; subst h; simp at hlt)
      obtain ⟨a0, a1, a2, b0, b1, b2, p, c1, p', c2, e0, e1, e2, e3, e4, e5, e6, e7, e8, e9, ga, gb, g3, g4⟩ := hrd.get' k hlt
      have hle := sizeT_get l k hlt
      have HT := hid (costT_take l 0 k hlt)
      have HLT := hid hlt
      generalize hxx : l[k]'hlt = x at e0 e1 e8 e9 ga gb g3 g4 hle HT
      clear hxx
      obtain ⟨pa, ca, rfl, rfl, rfl⟩ := ga.shape
      obtain ⟨pb, cb, rfl, rfl, rfl⟩ := gb.shape
      clear ga gb
      have hb := HB.out
      have d0 := later hb e0
      have d1 := later hb e1
      have d2 := later hb e2
      have d3 := later hb e3
      have d4 := later hb e4
      have d5 := later hb e5
      have d6 := later hb e6
      have d7 := later hb e7
      have d8 := later hb e8
      have d9 := later hb e9
      have hbl := lt_of_cell d0
      have hA1 := ext_alloc (ext_refl wr) (.cells #[.int .u8 x.kind, .int .i64 x.to, .int .u8 x.a.op, .int .i64 x.a.n, .slice pa x.a.args.length ca, .int .u8 x.b.op, .int .i64 x.b.n, .slice pb x.b.args.length cb, .slice p x.body.length c1, .slice p' x.els.length c2] 91)
      have HBK := hid (Blk.new wr #[.int .u8 x.kind, .int .i64 x.to, .int .u8 x.a.op, .int .i64 x.a.n, .slice pa x.a.args.length ca, .int .u8 x.b.op, .int .i64 x.b.n, .slice pb x.b.args.length cb, .slice p x.body.length c1, .slice p' x.els.length c2] 91)
      have HG3 := hid (g3.below (ext_trans hb hA1))
      have HG4 := hid (g4.below (ext_trans hb hA1))
      have hs1 := sizeS_body x
      have hs2 := sizeS_els x
      have HB1 := hid (show sizeT x.body < s by have := HS.out; omega)
      have HB2 := hid (show sizeT x.els < s by have := HS.out; omega)
      have HP := hid (costS_parts x)
      have hc1 := costT_le x.body 0 (by omega)
      have hc2 := costT_le x.els 0 (by omega)
      have hs0 := costT_le (l.take k) 0 (by omega)
      have HC1 := hid (fun w h => IH.out x.body w (.slice p x.body.length c1) HB1.out h)
      have HC2 := hid (fun w h => IH.out x.els w (.slice p' x.els.length c2) HB2.out h)
      have HA := hid (ext_trans hb hA1)
      clear e0 e1 e2 e3 e4 e5 e6 e7 e8 e9 g3 g4 hle hs1 hs2 hrd
      generalize hkd : x.kind = kd at *
      generalize costT 0 x.body = x1 at *
      generalize costT 0 x.els = x2 at *
      generalize costT 0 (l.take k) = sm at *
      have HKD := hid hkd
      clear hkd
      obtain ⟨WB, hWB⟩ : ∃ WB, WB = wr.alloc (.cells #[.int .u8 kd, .int .i64 x.to, .int .u8 x.a.op, .int .i64 x.a.n, .slice pa x.a.args.length ca, .int .u8 x.b.op, .int .i64 x.b.n, .slice pb x.b.args.length cb, .slice p x.body.length c1, .slice p' x.els.length c2] 91) := ⟨_, rfl⟩
      have HWB := hid hWB
      have HBKW : Hid (Blk WB wr.heap.size #[.int .u8 kd, .int .i64 x.to, .int .u8 x.a.op, .int .i64 x.a.n, .slice pa x.a.args.length ca, .int .u8 x.b.op, .int .i64 x.b.n, .slice pb x.b.args.length cb, .slice p x.body.length c1, .slice p' x.els.length c2] 91) := hid (by rw [HWB.out]; exact HBK.out)
      have HG3W : Hid (RdTx WB x.body (.slice p x.body.length c1)) := hid (by rw [HWB.out]; exact HG3.out)
      have HG4W : Hid (RdTx WB x.els (.slice p' x.els.length c2)) := hid (by rw [HWB.out]; exact HG4.out)
      have HAW : Hid (Below w.heap.size w WB) := hid (by rw [HWB.out]; exact HA.out)
      clear hWB HBK HG3 HG4 HA
      by_cases k4 : kd = 4
      · subst k4
        have HM : Hid (costS x = 1 + max x1 x2) := hid (by rw [HP.out, if_pos rfl])
        go_wp2_with fail
        rw [← HWB.out]
        apply wp_region_known (fun i => ([.pointer (some ⟨wr.heap.size, 8, none⟩), .slice p x.body.length c1, .int .i64 (x1 : Int), .pointer (some ⟨wr.heap.size, 9, none⟩), .slice p' x.els.length c2, .int .i64 (x2 : Int), .int .i64 ((max x1 x2 : Nat) : Int), .int .i64 ((max x1 x2 : Nat) : Int)] : List Value).getD i undef) (fun w' => Below WB.heap.size WB w')
        focus (simp [putAll, dstOf, Act.put, List.getD]; rfl)
        case hm => kernel_rfl
        case hd => kernel_rfl
        case hb => kernel_rfl
        case hng => kernel_rfl
        case hsz => kernel_rfl
        case h0 => exact ext_drew (ext_refl _)
        case hstep =>
          refine ⟨?_, ?_, ?_, ?_, ?_, ?_, ?_, ?_, trivial⟩
          all_goals (
            refine ⟨(fun g b h => by cases h), fun w' hG hg ρ h1 h2 h3 h4 h5 => ?_⟩
            have hG := hid hG)
          · have f1 := h5 5 (by kernel_rfl)
            clear h4 h5
            unfold OpY
            go_simp
            exact ⟨rfl, hG.out⟩
          · have f1 : ρ (.tmp 17) = _ := h4 0 17 (by kernel_rfl) (by kernel_rfl)
            have y1 := (HBKW.out.below hG.out).cell 8 rfl
            clear h4 h5
            unfold OpY
            go_simp
            exact ⟨rfl, hG.out⟩
          · have f1 : ρ (.tmp 18) = _ := h4 1 18 (by kernel_rfl) (by kernel_rfl)
            clear h4 h5
            unfold OpY
            go_simp
            unfold OpR
            refine (HC1.out _ (HG3W.out.below hG.out)).mono ?_
            rintro e' w2 ⟨rfl, hb⟩
            exact ⟨_, rfl, rfl, ext_trans hG.out hb⟩
          · have f1 := h5 5 (by kernel_rfl)
            clear h4 h5
            unfold OpY
            go_simp
            exact ⟨rfl, hG.out⟩
          · have f1 : ρ (.tmp 20) = _ := h4 3 20 (by kernel_rfl) (by kernel_rfl)
            have y1 := (HBKW.out.below hG.out).cell 9 rfl
            clear h4 h5
            unfold OpY
            go_simp
            exact ⟨rfl, hG.out⟩
          · have f1 : ρ (.tmp 21) = _ := h4 4 21 (by kernel_rfl) (by kernel_rfl)
            clear h4 h5
            unfold OpY
            go_simp
            unfold OpR
            refine (HC2.out _ (HG4W.out.below hG.out)).mono ?_
            rintro e' w2 ⟨rfl, hb⟩
            exact ⟨_, rfl, rfl, ext_trans hG.out hb⟩
          · have f1 : ρ (.tmp 19) = .int .i64 (x1 : Int) := h4 2 19 (by kernel_rfl) (by kernel_rfl)
            have f2 : ρ (.tmp 22) = .int .i64 (x2 : Int) := h4 5 22 (by kernel_rfl) (by kernel_rfl)
            clear h4 h5
            unfold OpY
            go_simp
            unfold OpR
            exact ⟨by congr 1; split <;> omega, hG.out⟩
          · have f1 : ρ (.tmp 23) = _ := h4 6 23 (by kernel_rfl) (by kernel_rfl)
            clear h4 h5
            unfold OpY
            go_simp
            exact ⟨rfl, hG.out⟩
        case hdone =>
          intro w' hG
          have HG := hid hG
          clear hG
          go_wp2_with fail
          go_roundw
          case rel => exact ⟨k + 1, HLT.out, by go_num, (by rw [HT.out, HM.out]; congr 1; split <;> omega), hid (ext_trans HAW.out HG.out)⟩
          case measure => have := HLT.out; simp [intOf]; omega
      · have g4 : (kd == 4) = false := beq_eq_false_iff_ne.2 k4
        by_cases k5 : kd = 5
        · subst k5
          have HM : Hid (costS x = 1 + 8 * x1) := hid (by rw [HP.out]; rfl)
          go_wp2_with fail
          rw [← HWB.out]
          refine (HC1.out _ HG3W.out).mono ?_
          rintro e' w2 ⟨rfl, hb2⟩
          have HG := hid hb2
          clear hb2
          go_wp2_with fail
          all_goals
            go_roundw
            case rel => exact ⟨k + 1, HLT.out, by go_num, (by rw [HT.out, HM.out]; first | (congr 1; omega) | (congr 1; split <;> omega)), hid (ext_trans HAW.out HG.out)⟩
            case measure => have := HLT.out; simp [intOf]; omega
        · have g5 : (kd == 5) = false := beq_eq_false_iff_ne.2 k5
          by_cases k7 : kd = 7
          · subst k7
            have HM : Hid (costS x = 1 + (x1 + x2)) := hid (by rw [HP.out]; rfl)
            go_wp2_with fail
            rw [← HWB.out]
            apply wp_region_known (fun i => ([.pointer (some ⟨wr.heap.size, 8, none⟩), .slice p x.body.length c1, .int .i64 (x1 : Int), .pointer (some ⟨wr.heap.size, 9, none⟩), .slice p' x.els.length c2, .int .i64 (x2 : Int), .int .i64 ((x1 + x2 : Nat) : Int), .int .i64 ((x1 + x2 : Nat) : Int)] : List Value).getD i undef) (fun w' => Below WB.heap.size WB w')
            focus (simp [putAll, dstOf, Act.put, List.getD]; rfl)
            case hm => kernel_rfl
            case hd => kernel_rfl
            case hb => kernel_rfl
            case hng => kernel_rfl
            case hsz => kernel_rfl
            case h0 => exact ext_drew (ext_refl _)
            case hstep =>
              refine ⟨?_, ?_, ?_, ?_, ?_, ?_, ?_, ?_, trivial⟩
              all_goals (
                refine ⟨(fun g b h => by cases h), fun w' hG hg ρ h1 h2 h3 h4 h5 => ?_⟩
                have hG := hid hG)
              · have f1 := h5 5 (by kernel_rfl)
                clear h4 h5
                unfold OpY
                go_simp
                exact ⟨rfl, hG.out⟩
              · have f1 : ρ (.tmp 32) = _ := h4 0 32 (by kernel_rfl) (by kernel_rfl)
                have y1 := (HBKW.out.below hG.out).cell 8 rfl
                clear h4 h5
                unfold OpY
                go_simp
                exact ⟨rfl, hG.out⟩
              · have f1 : ρ (.tmp 33) = _ := h4 1 33 (by kernel_rfl) (by kernel_rfl)
                clear h4 h5
                unfold OpY
                go_simp
                unfold OpR
                refine (HC1.out _ (HG3W.out.below hG.out)).mono ?_
                rintro e' w2 ⟨rfl, hb⟩
                exact ⟨_, rfl, rfl, ext_trans hG.out hb⟩
              · have f1 := h5 5 (by kernel_rfl)
                clear h4 h5
                unfold OpY
                go_simp
                exact ⟨rfl, hG.out⟩
              · have f1 : ρ (.tmp 35) = _ := h4 3 35 (by kernel_rfl) (by kernel_rfl)
                have y1 := (HBKW.out.below hG.out).cell 9 rfl
                clear h4 h5
                unfold OpY
                go_simp
                exact ⟨rfl, hG.out⟩
              · have f1 : ρ (.tmp 36) = _ := h4 4 36 (by kernel_rfl) (by kernel_rfl)
                clear h4 h5
                unfold OpY
                go_simp
                unfold OpR
                refine (HC2.out _ (HG4W.out.below hG.out)).mono ?_
                rintro e' w2 ⟨rfl, hb⟩
                exact ⟨_, rfl, rfl, ext_trans hG.out hb⟩
              · have f1 : ρ (.tmp 34) = .int .i64 (x1 : Int) := h4 2 34 (by kernel_rfl) (by kernel_rfl)
                have f2 : ρ (.tmp 37) = .int .i64 (x2 : Int) := h4 5 37 (by kernel_rfl) (by kernel_rfl)
                clear h4 h5
                unfold OpY
                go_simp
                unfold OpR
                exact ⟨congrArg _ (IntWalk.i64_in _ (by omega)), hG.out⟩
              · have f1 : ρ (.tmp 38) = _ := h4 6 38 (by kernel_rfl) (by kernel_rfl)
                clear h4 h5
                unfold OpY
                go_simp
                exact ⟨rfl, hG.out⟩
            case hdone =>
              intro w' hG
              have HG := hid hG
              clear hG
              go_wp2_with fail
              go_roundw
              case rel => exact ⟨k + 1, HLT.out, by go_num, (by rw [HT.out, HM.out]; congr 1; split <;> omega), hid (ext_trans HAW.out HG.out)⟩
              case measure => have := HLT.out; simp [intOf]; omega
          · have g7 : (kd == 7) = false := beq_eq_false_iff_ne.2 k7
            have HM : Hid (costS x = 1) := hid (by rw [HP.out, if_neg k4, if_neg k5, if_neg k7])
            go_wp2_with fail
            rw [← HWB.out]
            go_roundw
            case rel => exact ⟨k + 1, HLT.out, by go_num, (by rw [HT.out, HM.out]; congr 1; split <;> omega), HAW⟩
            case measure => have := HLT.out; simp [intOf]; omega
    · obtain rfl : k = l.length := by omega
      go_wp2_with fail
      go_ret
      exact ⟨by simp, HB.out⟩
end Go.Proofs.Ytaklfjjkeebheaa
/-
  Walks: code.none, code.nodes, code.of.
-/
namespace Go.Proofs.Ytaklfjjkeebheaa
set_option linter.unusedVariables false
set_option linter.unusedSimpArgs false
set_option linter.unusedVariables false
open Go Go.RowKit
def noneS (e : Ex) : Bool := (e.op == 0 && e.n == 0) && e.args.isEmpty
def nodesS (e : Ex) : Nat := if e.op = 0 then 0 else sizeE e
set_option maxRecDepth 100000 in
set_option maxHeartbeats 4000000 in
theorem none_any (e : Ex) (w : World) (v0 v1 v2 : Value) (h : RdEx w e v0 v1 v2) :
    Calls Try.prog 70 #[.agg #[v0, v1, v2]] w fun e' w' => e' = .returned (.bool (noneS e)) ∧ Below w.heap.size w w' := by
  obtain ⟨a, cap, rfl, rfl, rfl⟩ := h.shape
  have HN : Hid (noneS e = ((e.op == 0 && e.n == 0) && decide (e.args.length = 0))) := hid (by
    unfold noneS
    congr 1
    cases e.args <;> simp)
  generalize noneS e = q at *
  generalize e.op = op at *
  generalize e.n = n at *
  generalize e.args.length = m at *
  by_cases h1 : op = 0
  · subst h1
    by_cases h2 : n = 0
    · subst h2
      by_cases h3 : m = 0
      · subst h3
        obtain rfl : q = true := HN.out
        go_enter Try.func70, Try.ntmps70
        go_wp2_with fail
        go_ret
        exact ⟨rfl, ext_alloc (ext_refl _) _⟩
      · have g3 : ((m : Int) == 0) = false := by rw [beq_eq_false_iff_ne]; omega
        have hq : q = false := by rw [HN.out, decide_eq_false h3]; rfl
        subst hq
        go_enter Try.func70, Try.ntmps70
        go_wp2_with fail
        go_ret
        exact ⟨rfl, ext_alloc (ext_refl _) _⟩
    · have g2 : (n == 0) = false := beq_eq_false_iff_ne.2 h2
      have hq : q = false := by rw [HN.out, g2]; rfl
      subst hq
      go_enter Try.func70, Try.ntmps70
      go_wp2_with fail
      go_ret
      exact ⟨rfl, ext_alloc (ext_refl _) _⟩
  · have g1 : (op == 0) = false := beq_eq_false_iff_ne.2 h1
    have hq : q = false := by rw [HN.out, g1]; rfl
    subst hq
    go_enter Try.func70, Try.ntmps70
    go_wp2_with fail
    go_ret
    exact ⟨rfl, ext_alloc (ext_refl _) _⟩
set_option maxRecDepth 100000 in
set_option maxHeartbeats 4000000 in
theorem nodes_any (e : Ex) (w : World) (v0 v1 v2 : Value) (h : RdEx w e v0 v1 v2) (hs : sizeE e ≤ 1000000) :
    Calls Try.prog 64 #[.agg #[v0, v1, v2]] w fun e' w' => e' = .returned (.int .i64 (nodesS e : Nat)) ∧ Below w.heap.size w w' := by
  obtain ⟨a, cap, rfl, rfl, rfl⟩ := h.shape
  have HC := hid (fun (w : World) (h : RdEx w e (.int .u8 e.op) (.int .i64 e.n) (.slice a e.args.length cap)) => count_any (sizeE e) e w _ _ _ (Nat.le_refl _) h hs)
  have HR := hid (h.below (ext_alloc (ext_refl w) (.cells #[.int .u8 e.op, .int .i64 e.n, .slice a e.args.length cap] 89)))
  have HN : Hid (nodesS e = if e.op = 0 then 0 else sizeE e) := hid rfl
  generalize nodesS e = q at *
  generalize sizeE e = z at *
  by_cases h1 : e.op = 0
  · have hq : q = 0 := by rw [HN.out, if_pos h1]
    subst hq
    rw [h1] at *
    clear HC HR HN h
    go_enter Try.func64, Try.ntmps64
    go_wp2_with fail
    go_ret
    exact ⟨rfl, ext_alloc (ext_refl _) _⟩
  · have g1 : (e.op == 0) = false := beq_eq_false_iff_ne.2 h1
    have hq : q = z := by rw [HN.out, if_neg h1]
    subst hq
    clear h h1
    go_enter Try.func64, Try.ntmps64
    go_wp2_with fail
    refine (HC.out _ HR.out).mono ?_
    rintro e' w1 ⟨rfl, hb1⟩
    go_wp2_with fail
    go_ret
    exact ⟨rfl, ext_trans (ext_alloc (ext_refl _) _) hb1⟩
end Go.Proofs.Ytaklfjjkeebheaa
