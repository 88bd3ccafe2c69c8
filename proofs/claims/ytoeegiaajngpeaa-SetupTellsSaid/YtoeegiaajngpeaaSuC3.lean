/-
  Walks: setup.Cost.
-/
import Derived.Test.YtoeegiaajngpeaaSuC2
namespace Go.Proofs.Ytoeegiaajngpeaa
set_option linter.unusedVariables false
set_option linter.unusedSimpArgs false
set_option linter.unusedVariables false
open Go Go.RowKit
def costTh (l : List (List St)) : Nat := l.foldl (fun n t => max n (costT 0 t)) 0
def costThs (l : List (List (List St))) : Nat := l.foldl (fun n t => max n (costTh t)) 0
theorem costTh_take (l : List (List St)) (k : Nat) (h : k < l.length) : costTh (l.take (k + 1)) = max (costTh (l.take k)) (costT 0 l[k]) := by
  unfold costTh; rw [List.take_succ_eq_append_getElem h, List.foldl_append]; rfl
theorem costThs_take (l : List (List (List St))) (k : Nat) (h : k < l.length) : costThs (l.take (k + 1)) = max (costThs (l.take k)) (costTh l[k]) := by
  unfold costThs; rw [List.take_succ_eq_append_getElem h, List.foldl_append]; rfl
set_option maxRecDepth 100000 in
set_option maxHeartbeats 4000000 in
theorem most1_any (th : List (List St)) (v : Value) (w : World) (hr : RdTh w th v) :
    Calls Try.prog 25 #[v, .func (.func 26) #[] #[]] w fun e' w' => e' = .returned (.int .i64 (costTh th : Nat)) ∧ Below w.heap.size w w' := by
  obtain ⟨a, cap, rfl, hlen, hx⟩ := hr
  have HX := hid hx; clear hx
  go_enter Try.func25, Try.ntmps25
  go_wp2_with fail
  go_loopw [5, 10] (fun n i wr => ∃ k : Nat, k ≤ th.length ∧ i = .int .i64 k ∧ n = .int .i64 (costTh (th.take k) : Nat) ∧ Below w.heap.size w wr) (fun _ i _ => th.length - (intOf i).toNat)
  case atStart => exact ⟨0, Nat.zero_le _, rfl, by simp [costTh], ext_refl _⟩
  case round =>
    obtain ⟨k, hk, rfl, rfl, hb⟩ := hrel
    by_cases hlt : k < th.length
    · obtain ⟨q, off, rfl, hrd⟩ := HX.out (by intro h; subst h; simp at hlt)
      obtain ⟨vt, e0, ht⟩ := RdRow.get th hrd k hlt
      have HRT := hid (ht.below hb)
      obtain ⟨pt, ct, rfl, -, -⟩ := ht
      have d0 := later hb e0
      have hbl := lt_of_cell d0
      have HLT := hid hlt
      have HB := hid hb
      have HT := hid (costTh_take th k hlt)
      have j1 : decide ((k : Int) < (th.length : Int)) = true := by rw [decide_eq_true_iff]; omega
      have j1n : decide (k < th.length) = true := decide_eq_true hlt
      have j2 : (0 : Int) ≤ (k : Int) := by omega
      have j3 : IntKind.i64.wrap ((k : Int) + 1) = (k : Int) + 1 := IntWalk.i64_in _ (by omega)
      clear hrd e0 hb
      generalize th[k]'hlt = tx at *
      generalize costTh (th.take k) = m0 at *
      go_wp2_with fail
      refine (tcost_any tx _ _ HRT.out).mono ?_
      rintro e w1 ⟨rfl, hb1⟩
      have HB1 := hid (ext_trans HB.out hb1)
      clear hb1
      generalize costT 0 tx = c at *
      go_wp2_with fail
      go_roundw
      case rel => exact ⟨k + 1, HLT.out, by go_num, (by rw [HT.out]; first | go_num | (congr 1; omega)), HB1.out⟩
      case measure => have := HLT.out; simp [intOf]; omega
    · obtain rfl : k = th.length := by omega
      have j1 : decide ((th.length : Int) < (th.length : Int)) = false := by rw [decide_eq_false_iff_not]; omega
      go_wp2_with fail
      go_ret
      exact ⟨by rw [List.take_length]; rfl, hb⟩
set_option maxRecDepth 100000 in
set_option maxHeartbeats 4000000 in
theorem cost1_any (th : List (List St)) (v : Value) (w : World) (hr : RdTh w th v) :
    Calls Try.prog 24 #[v] w fun e' w' => e' = .returned (.int .i64 (costTh th : Nat)) ∧ Below w.heap.size w w' := by
  have HC := hid (most1_any th v w hr)
  obtain ⟨a, cap, rfl, hlen, hx⟩ := hr
  clear hx
  go_enter Try.func24, Try.ntmps24
  go_wp2_with fail
  refine HC.out.mono ?_
  rintro e w1 ⟨rfl, hb1⟩
  go_wp2_with fail
  go_ret
  exact ⟨rfl, hb1⟩
set_option maxRecDepth 100000 in
set_option maxHeartbeats 4000000 in
theorem most2_any (ths : List (List (List St))) (v : Value) (w : World) (hr : RdThs w ths v) :
    Calls Try.prog 23 #[v, .func (.func 24) #[] #[]] w fun e' w' => e' = .returned (.int .i64 (costThs ths : Nat)) ∧ Below w.heap.size w w' := by
  obtain ⟨a, cap, rfl, hlen, hx⟩ := hr
  have HX := hid hx; clear hx
  go_enter Try.func23, Try.ntmps23
  go_wp2_with fail
  go_loopw [5, 10] (fun n i wr => ∃ k : Nat, k ≤ ths.length ∧ i = .int .i64 k ∧ n = .int .i64 (costThs (ths.take k) : Nat) ∧ Below w.heap.size w wr) (fun _ i _ => ths.length - (intOf i).toNat)
  case atStart => exact ⟨0, Nat.zero_le _, rfl, by simp [costThs], ext_refl _⟩
  case round =>
    obtain ⟨k, hk, rfl, rfl, hb⟩ := hrel
    by_cases hlt : k < ths.length
    · obtain ⟨q, off, rfl, hrd⟩ := HX.out (by intro h; subst h; simp at hlt)
      obtain ⟨vt, e0, ht⟩ := RdRow.get ths hrd k hlt
      have HRT := hid (RdTh.below hb ht)
      obtain ⟨pt, ct, rfl, -, -⟩ := ht
      have d0 := later hb e0
      have hbl := lt_of_cell d0
      have HLT := hid hlt
      have HB := hid hb
      have HT := hid (costThs_take ths k hlt)
      have j1 : decide ((k : Int) < (ths.length : Int)) = true := by rw [decide_eq_true_iff]; omega
      have j1n : decide (k < ths.length) = true := decide_eq_true hlt
      have j2 : (0 : Int) ≤ (k : Int) := by omega
      have j3 : IntKind.i64.wrap ((k : Int) + 1) = (k : Int) + 1 := IntWalk.i64_in _ (by omega)
      clear hrd e0 hb
      generalize ths[k]'hlt = th at *
      generalize costThs (ths.take k) = m0 at *
      go_wp2_with fail
      refine (cost1_any th _ _ HRT.out).mono ?_
      rintro e w1 ⟨rfl, hb1⟩
      have HB1 := hid (ext_trans HB.out hb1)
      clear hb1
      generalize costTh th = c at *
      go_wp2_with fail
      go_roundw
      case rel => exact ⟨k + 1, HLT.out, by go_num, (by rw [HT.out]; first | go_num | (congr 1; omega)), HB1.out⟩
      case measure => have := HLT.out; simp [intOf]; omega
    · obtain rfl : k = ths.length := by omega
      have j1 : decide ((ths.length : Int) < (ths.length : Int)) = false := by rw [decide_eq_false_iff_not]; omega
      go_wp2_with fail
      go_ret
      exact ⟨by rw [List.take_length]; rfl, hb⟩
set_option maxRecDepth 100000 in
set_option maxHeartbeats 4000000 in
theorem scost_any (st ck tr : Int) (pi : Option Addr) (ni ci : Nat) (ths : List (List (List St))) (v : Value) (w : World) (hr : RdThs w ths v) :
    Calls Try.prog 10 #[.agg #[.int .i64 st, .int .i64 ck, .int .i64 tr, .slice pi ni ci, v]] w fun e' w' => e' = .returned (.int .i64 (costThs ths : Nat)) ∧ Below w.heap.size w w' := by
  have HC := hid (fun (W : World) (hb : Below w.heap.size w W) => most2_any ths v W (hr.below hb))
  obtain ⟨a, cap, rfl, hlen, hx⟩ := hr
  clear hx
  go_enter Try.func10, Try.ntmps10
  go_wp2_with fail
  refine (HC.out _ (ext_alloc (ext_refl _) _)).mono ?_
  rintro e w1 ⟨rfl, hb1⟩
  have hf := ext_trans (ext_alloc (ext_refl w) _) hb1
  go_wp2_with fail
  go_ret
  exact ⟨rfl, hf⟩
end Go.Proofs.Ytoeegiaajngpeaa
