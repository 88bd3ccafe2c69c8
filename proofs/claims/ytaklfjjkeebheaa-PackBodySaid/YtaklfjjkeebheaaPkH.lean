/-
  Walk: (pack.writer).expr.
-/
import Derived.Test.YtaklfjjkeebheaaPkE
import Derived.Test.YtaklfjjkeebheaaPbC
namespace Go.Proofs.Ytaklfjjkeebheaa
set_option linter.unusedVariables false
set_option linter.unusedSimpArgs false
set_option linter.unusedVariables false
open Go Go.RowKit
def WrP (b : Nat) (v : Value) (W : World) (bs : List Nat) (e : Ending) (W' : World) : Prop := (∃ x, e = .returned x) ∧ ∃ v', WrG b v W bs v' W'
theorem exprsB_take : ∀ (l : List Ex) (k : Nat) (h : k < l.length), exprsB (l.take (k + 1)) = exprsB (l.take k) ++ exprB l[k]
  | x :: xs, 0, h => by simp [exprsB]
  | x :: xs, k + 1, h => by
    simp only [List.take_succ_cons, exprsB, List.getElem_cons_succ]
    rw [exprsB_take xs k (by simpa using h), List.append_assoc]
theorem exprsB_take_le : ∀ (l : List Ex) (j : Nat), (exprsB (l.take j)).length ≤ (exprsB l).length
  | [], j => by simp [exprsB]
  | x :: xs, 0 => by simp [exprsB]
  | x :: xs, j + 1 => by
    simp only [List.take_succ_cons, exprsB, List.length_append]
    have := exprsB_take_le xs j
    omega
theorem exprsB_le (l : List Ex) (k : Nat) (h : k < l.length) : (exprsB (l.take k)).length + (exprB l[k]).length ≤ (exprsB l).length := by
  have := exprsB_take_le l (k + 1)
  rw [exprsB_take l k h, List.length_append] at this
  omega
theorem numsB_one (n : Int) : numsB [n] = putN (u64 n) := by simp [numsB]
theorem op_int (n : Int) (h : 0 ≤ n ∧ n ≤ 255) : IntKind.i64.wrap n = n := IntWalk.i64_in _ (by omega)
set_option maxRecDepth 100000 in
set_option maxHeartbeats 4000000 in
theorem wexpr_any (s : Nat) : ∀ (e : Ex) (b : Nat) (bs : List Nat) (v v0 v1 v2 : Value) (W0 W : World), sizeE e ≤ s → WrtO W b 16777216 bs (b + 1) v → W0.heap.size = b → Below b W0 W → b < W.heap.size → RdEx W0 e v0 v1 v2 → bs.length + (exprB e).length ≤ 16000000 →
    Calls Try.prog 40 #[.agg #[.pointer (some ⟨b, 0, none⟩)], .agg #[v0, v1, v2]] W (WrP b v W (bs ++ exprB e)) := by
  induction s with
  | zero => intro e b bs v v0 v1 v2 W0 W hs; have := sizeE_pos e; omega
  | succ s ih =>
  intro e b bs v v0 v1 v2 W0 W hs hw h0 hb hlt hr hfit
  cases e with | mk op n args =>
  unfold RdEx at hr
  obtain ⟨rfl, rfl, hop, hn, a, cap, rfl, hal, hrd⟩ := hr
  obtain ⟨W1, hW1⟩ : ∃ W1, W1 = (W.alloc (.cells #[.pointer (some ⟨b, 0, none⟩)] 52)).alloc (.cells #[.int .u8 op, .int .i64 n, .slice a args.length cap] 89) := ⟨_, rfl⟩
  have hb1 : Below W.heap.size W W1 := by rw [hW1]; exact ext_alloc (ext_alloc (ext_refl _) _) _
  have hbx : Blk W1 W.heap.size #[.pointer (some ⟨b, 0, none⟩)] 52 := by rw [hW1]; exact (Blk.new _ _ _).alloc _
  have hbe : Blk W1 (W.heap.size + 1) #[.int .u8 op, .int .i64 n, .slice a args.length cap] 89 := by rw [hW1]; exact Blk.new' _ _ _ (by simp)
  have hsz1 : W1.heap.size = W.heap.size + 2 := by rw [hW1]; simp
  have hw1 := hw.below hb1
  have hlow : ∀ {x u wr}, WrG b v W1 x u wr → Below b W0 wr := fun hG => (hb.trans (hb1.mono (by omega))).trans (hG.low hw1 (Nat.le_refl _) (by omega))
  have hkx : ∀ {x u wr}, WrG b v W1 x u wr → Blk wr W.heap.size #[.pointer (some ⟨b, 0, none⟩)] 52 := fun hG => (hG.keep (by omega) (by omega) (fun g hg e => by have := (hw.own.lt g hg).2; omega)).trans hbx
  have hke : ∀ {x u wr}, WrG b v W1 x u wr → Blk wr (W.heap.size + 1) #[.int .u8 op, .int .i64 n, .slice a args.length cap] 89 := fun hG => (hG.keep (by omega) (by omega) (fun g hg e => by have := (hw.own.lt g hg).2; omega)).trans hbe
  have HLOW : Hid (∀ x u wr, WrG b v W1 x u wr → Below b W0 wr) := hid (fun _ _ _ h => hlow h)
  have HKX : Hid (∀ x u wr, WrG b v W1 x u wr → Blk wr W.heap.size #[.pointer (some ⟨b, 0, none⟩)] 52) := hid (fun _ _ _ h => hkx h)
  have HKE : Hid (∀ x u wr, WrG b v W1 x u wr → Blk wr (W.heap.size + 1) #[.int .u8 op, .int .i64 n, .slice a args.length cap] 89) := hid (fun _ _ _ h => hke h)
  have HB1 := hid hb1
  have HW1 := hid hW1
  have HS1 := hid hsz1
  have HB := hid (show b < W.heap.size from hlt)
  have H0 := hid h0
  have IH := hid ih
  have HS := hid hs
  have HFIT := hid hfit
  have HOP := hid hop
  have HN := hid hn
  have HRD := hid hrd
  have HAL := hid hal
  have HG1 := hid (WrG.refl hw1)
  have hoi := op_int op hop
  -- the first number
  obtain ⟨W2, hW2⟩ : ∃ W2, W2 = W1.alloc (.cells #[.int .i64 op] 3) := ⟨_, rfl⟩
  have hb2 : Below W1.heap.size W1 W2 := by rw [hW2]; exact ext_alloc (ext_refl _) _
  have hn2 : Blk W2 W1.heap.size (([op].map (Value.int .i64 ·)).toArray) 3 := by rw [hW2]; exact Blk.new _ _ _
  have HNUM := hid (wnum_any b W1.heap.size bs v [op] 1 W2 (hw1.below hb2) hn2 (by simp) (by omega) (by have := hb2.size; omega) ⟨by omega, fun g hg e => by have := (hw1.own.lt g hg).2; omega⟩)
  have hss : W1.heap.size = W.heap.size + 1 + 1 := hsz1
  rw [hss] at HNUM
  have HG2 := hid ((WrG.refl hw1).below hb2)
  have HW2 := hid hW2
  have x1 := hbx.cell 0 (v := .pointer (some ⟨b, 0, none⟩)) rfl
  have e1 := hbe.cell 0 (v := .int .u8 op) rfl
  rw [hW1] at x1 e1
  obtain ⟨Q, hQ⟩ : ∃ Q, Q = WrP b v W (bs ++ exprB (.mk op n args)) := ⟨_, rfl⟩
  rw [← hQ]
  have HQ := hid hQ
  clear hs hw h0 hb hlt hop hn hal hrd hfit ih hb1 hbx hbe hsz1 hw1 hlow hkx hke hb2 hn2 hQ hss hW1 hW2
  go_enter Try.func40, Try.ntmps40
  go_wp2_with fail
  rw [← HW1.out, ← HW2.out]
  refine HNUM.out.mono ?_
  rintro e' w3 ⟨⟨y, rfl⟩, u3, hG3⟩
  have hG3 := HG2.out.trans hG3
  rw [numsB_one] at hG3
  have HG3 := hid hG3
  have x3 := (HKX.out _ _ _ hG3).cell 0 (v := .pointer (some ⟨b, 0, none⟩)) rfl
  have e3 := (HKE.out _ _ _ hG3).cell 0 (v := .int .u8 op) rfl
  have e4 := (HKE.out _ _ _ hG3).cell 1 (v := .int .i64 n) rfl
  have e5 := (HKE.out _ _ _ hG3).cell 2 (v := .slice a args.length cap) rfl
  have hbw3 : b < w3.heap.size := by have := HB.out; have := HS1.out; have := hG3.turn.size; omega
  have HBW3 := hid hbw3
  have hpt := putN_ten (u64 op)
  have HPT := hid hpt
  have hl3 : (bs ++ putN (u64 op)).length ≤ 16000010 := by rw [List.length_append]; have := HFIT.out; omega
  have HL3 := hid hl3
  clear hG3 x1 e1 hbw3 hpt hl3 HW1 HW2 HNUM HG2
  by_cases h1 : op = 1
  · subst h1
    have HC := hid (wintM_any b _ u3 n w3 HG3.out.w HN.out (by have := HL3.out; omega) HBW3.out)
    go_wp2_with fail
    refine HC.out.mono ?_
    rintro e' w4 ⟨⟨y, rfl⟩, u4, hG4⟩
    have HG4 := hid (HG3.out.trans hG4)
    clear hG4
    go_wp2_with fail
    refine bodyPost_ret (v := .tuple #[]) (by simp [results, Try.results40, go_sem]) rfl ?_
    rw [HQ.out]
    refine ⟨⟨_, rfl⟩, u4, ?_⟩
    simp only [exprB, if_true]
    rw [← List.append_assoc]
    exact HG4.out.ahead HB1.out
  by_cases h2 : op = 2 ∨ op = 3
  · have g1 : (op == 1) = false := beq_eq_false_iff_ne.2 h1
    have HC : Hid (∀ W4, Below w3.heap.size w3 W4 → Blk W4 w3.heap.size (([n].map (Value.int .i64 ·)).toArray) 3 → Calls Try.prog 18 #[.agg #[.pointer (some ⟨b, 0, none⟩)], .slice (some ⟨w3.heap.size, 0, none⟩) 1 1] W4 fun e W' => (∃ x, e = .returned x) ∧ ∃ v', WrG b u3 W4 ((bs ++ putN (u64 op)) ++ numsB [n]) v' W') :=
      hid (fun W4 hb4 hbl => wnum_any b w3.heap.size (bs ++ putN (u64 op)) u3 [n] 1 W4 (HG3.out.w.below hb4) hbl (by simp) (by have := HL3.out; omega) (by have := hb4.size; have := HBW3.out; omega) ⟨by have := HBW3.out; omega, fun g hg e => by have := (HG3.out.w.own.lt g hg).2; omega⟩)
    have HQ2 : Hid (∀ W4 u w4, Below w3.heap.size w3 W4 → WrG b u3 W4 ((bs ++ putN (u64 op)) ++ numsB [n]) u w4 → Q (.returned (.tuple #[])) w4) := hid (fun W4 u w4 hb4 hG => by
      rw [HQ.out]
      refine ⟨⟨_, rfl⟩, u, ?_⟩
      simp only [exprB]
      rw [if_neg h1, if_pos h2, ← List.append_assoc, ← numsB_one n]
      exact ((HG3.out.below hb4).trans hG).ahead HB1.out)
    rcases h2 with rfl | rfl
    all_goals (
      go_wp2_with fail
      refine (HC.out _ (ext_alloc (ext_refl _) _) (Blk.new _ _ _)).mono ?_
      rintro e' w4 ⟨⟨y, rfl⟩, u4, hG4⟩
      have HF := hid (HQ2.out _ _ _ (ext_alloc (ext_refl _) _) hG4)
      clear hG4
      go_wp2_with fail
      refine bodyPost_ret (v := .tuple #[]) (by simp [results, Try.results40, go_sem]) rfl ?_
      exact HF.out)
  have g1 : (op == 1) = false := beq_eq_false_iff_ne.2 h1
  have g2 : (op == 2) = false := beq_eq_false_iff_ne.2 (fun e => h2 (.inl e))
  have g3 : (op == 3) = false := beq_eq_false_iff_ne.2 (fun e => h2 (.inr e))
  have hexp : exprB (.mk op n args) = putN (u64 op) ++ exprsB args := by simp only [exprB]; rw [if_neg h1, if_neg h2]
  have HEXP := hid hexp
  rw [hexp] at HFIT HQ
  clear h1 h2 hexp
  go_wp2_with fail
  go_loopw [17, 5] (fun i _ wr => ∃ (k : Nat) (u : Value) (W' : World), W' = wr ∧ k ≤ args.length ∧ i = .int .i64 k ∧ WrG b v W1 (bs ++ putN (u64 op) ++ exprsB (args.take k)) u W') (fun i _ _ => args.length - (intOf i).toNat)
  case atStart => exact ⟨0, _, _, rfl, Nat.zero_le _, rfl, by simpa [exprsB] using HG3.out⟩
  case round =>
    obtain ⟨k, u, wr, hwr, hk, rfl, hG⟩ := hrel
    subst hwr
    clear x3 e3 e4 e5
    by_cases hlt : k < args.length
    · obtain ⟨q, off, ha, hre⟩ := HRD.out (by intro h; rw [h] at hlt; simp at hlt)
      obtain ⟨ak, ck, d0, d1, d2, d3⟩ := hre.get' k hlt
      have hlo := HLOW.out _ _ _ hG
      rw [← H0.out] at hlo
      have q0 := later hlo d0
      have q1 := later hlo d1
      have q2 := later hlo d2
      have hql : q < wr.heap.size := lt_of_cell q0
      have x4 := (HKX.out _ _ _ hG).cell 0 (v := .pointer (some ⟨b, 0, none⟩)) rfl
      have hxl := (HKX.out _ _ _ hG).lt
      have hsz := sizeL_get_le args k hlt
      have hfl := exprsB_le args k hlt
      have htk := exprsB_take args k hlt
      have hr4 := fun (W4 : World) (hb4 : Below wr.heap.size wr W4) => IH.out (args[k]) b (bs ++ putN (u64 op) ++ exprsB (args.take k)) u _ _ _ W0 W4 (by have := HS.out; simp only [sizeE] at this; omega) (hG.w.below hb4) H0.out (by have := (HLOW.out _ _ _ hG).trans (hb4.mono (by have := HLOW.out _ _ _ hG; have := HB.out; have := HS1.out; have := hG.turn.size; omega)); exact this) (by have := HB.out; have := HS1.out; have := hG.turn.size; have := hb4.size; omega) d3 (by have := HFIT.out; simp only [List.length_append] at this ⊢; omega)
      have HR4 := hid hr4
      have HG := hid hG
      have HTK := hid htk
      have HLT := hid hlt
      have j1 : decide ((k : Int) < (args.length : Int)) = true := by rw [decide_eq_true_iff]; omega
      have j2 : decide (k < args.length) = true := decide_eq_true hlt
      have j3 : IntKind.i64.wrap ((k : Int) + 1) = (k : Int) + 1 := IntWalk.i64_in _ (by have := HAL.out; omega)
      subst ha
      generalize args[k] = ex at *
      clear d0 d1 d2 d3 hre hlo hsz hfl htk hr4 hG hlt hk
      go_wp2_with fail
      refine (HR4.out _ (ext_alloc (ext_refl _) _)).mono ?_
      rintro e' w5 ⟨⟨y2, rfl⟩, u5, hG5⟩
      have HG5 := hid ((HG.out.below (ext_alloc (ext_refl _) _)).trans hG5)
      clear hG5 q0 q1 q2 x4
      go_wp2_with fail
      go_roundw
      case rel => exact ⟨k + 1, u5, _, rfl, HLT.out, by go_num, by rw [HTK.out, ← List.append_assoc]; exact HG5.out⟩
      case measure => have := HLT.out; simp [intOf]; omega
    · obtain rfl : k = args.length := by omega
      have j1 : decide ((args.length : Int) < (args.length : Int)) = false := by rw [decide_eq_false_iff_not]; omega
      have HG := hid hG
      clear hG
      go_wp2_with fail
      refine bodyPost_ret (v := .tuple #[]) (by simp [results, Try.results40, go_sem]) rfl ?_
      rw [HQ.out]
      refine ⟨⟨_, rfl⟩, u, ?_⟩
      have := HG.out
      rw [List.take_length, List.append_assoc] at this
      exact this.ahead HB1.out
end Go.Proofs.Ytaklfjjkeebheaa
