/-
  The checker; walks: Wake.
-/
import Derived.Test.YtcddlnmcjmhbcaaDoorShC9
import Derived.Test.YtcddlnmcjmhbcaaDoorShC7
namespace Go.Proofs.YtcddlnmcjmhbcaaDoor
set_option linter.unusedVariables false
open Go Go.RowKit
section
variable {w : World} {c tb sb : Nat} {s : Sh} {ev : Nat}
def wakeB (s : Sh) (t : Th) (i : Nat) : Bool := t.read.testBit i && decide (s.own i = -1 ∧ t.rv < s.ver i)
theorem wakesS_yes {s : Sh} {t : Th} {k : Nat} (hk : k < s.sts.length) (h : wakeB s t k = true) : wakesS s t = true :=
  List.any_eq_true.2 ⟨k, List.mem_range.2 hk, h⟩
theorem wakesS_no {s : Sh} {t : Th} (h : ∀ k, k < s.sts.length → wakeB s t k = false) : wakesS s t = false := by
  unfold wakesS
  rw [List.any_eq_false]
  intro k hk
  have := h k (List.mem_range.1 hk)
  unfold wakeB at this
  rw [this]; simp
set_option maxRecDepth 100000 in
set_option maxHeartbeats 4000000 in
theorem wake_any (h : CkAt w c tb sb s ev) (i : Nat) (hi : i < s.ths.length) {t : Th} (he : s.ths.getD i Th.zero = t) (hm : t.read < 4294967296) (hn32 : s.sts.length ≤ 32) (kind tx at_ v x why : Int) :
    Calls Tryd.prog 53 #[.pointer (some ⟨c, 0, none⟩), .pointer (some ⟨tb, i * 13, none⟩), .agg #[.int .u8 kind, .int .i64 (i : Int), .int .i64 tx, .int .i64 at_, .int .i64 v, .int .i64 x, .int .u8 why]] w
      (StepP w c tb sb s ev (wakeS s t ⟨kind, i, tx, at_, v, x, why⟩)) := by
  obtain ⟨c0, c1, c2, c3, c4⟩ := h.cells
  obtain ⟨t0, t1, t2, t3, t4, t5, t6, t7, t8, t9, t10, t11, t12⟩ := h.t hi he
  have f1 : w.frozen? ⟨c, 1, none⟩ = false := h.ck.free 1
  have ft0 : w.frozen? ⟨tb, i * 13, none⟩ = false := h.th.free _
  have ft3 : w.frozen? ⟨tb, i * 13 + 3, none⟩ = false := h.th.free _
  have ft4 : w.frozen? ⟨tb, i * 13 + 4, none⟩ = false := h.th.free _
  have ft5 : w.frozen? ⟨tb, i * 13 + 5, none⟩ = false := h.th.free _
  have ft6 : w.frozen? ⟨tb, i * 13 + 6, none⟩ = false := h.th.free _
  have ft7 : w.frozen? ⟨tb, i * 13 + 7, none⟩ = false := h.th.free _
  have ft8 : w.frozen? ⟨tb, i * 13 + 8, none⟩ = false := h.th.free _
  have ft9 : w.frozen? ⟨tb, i * 13 + 9, none⟩ = false := h.th.free _
  have ft10 : w.frozen? ⟨tb, i * 13 + 10, none⟩ = false := h.th.free _
  have ft11 : w.frozen? ⟨tb, i * 13 + 11, none⟩ = false := h.th.free _
  have ft12 : w.frozen? ⟨tb, i * 13 + 12, none⟩ = false := h.th.free _
  have hcl := lt_of_cell c0
  have htl := lt_of_cell t0
  have HH := hid h
  have HK : Hid (CkR w c tb sb s.ths.length s.sts.length s.vars s.clock ev (s.ths.map thL) (s.sts.map stL)) := hid h
  have HI := hid hi
  have hne := h.ne
  have HG : Hid (s.ths[i]? = some t) := hid (get_of_getD hi he)
  have HE := hid he
  have HN := hid fun W (hW : Below w.heap.size w W) (a : Nat) (ha : a < s.sts.length) => newer_any (s := s) (ev := ev) (CkR.below h hW) a ha hi he
  have HF := hid fun W (hW : Below w.heap.size w W) (a : Nat) (ha : a < s.sts.length) => free_any (s := s) (ev := ev) (CkR.below h hW) a ha
  clear h he hi
  by_cases p1 : t.at_ = 8
  case neg =>
    have k1 : (t.at_ != 8) = true := by simpa using p1
    have HR := hid (show wakeS s t ⟨kind, i, tx, at_, v, x, why⟩ = none from if_neg (fun hh => p1 hh.1))
    clear p1
    (go_enter Tryd.func53, Tryd.ntmps53; go_wp2_with fail; go_ret; exact stepP_no HR.out HH.out rfl (by repeat (first | assumption | exact ext_refl _ | refine ext_drew ?_ | refine ext_alloc ?_ _ | refine ext_trans ?_ (by assumption))))
  have k1 : (t.at_ != 8) = false := by simpa using p1
  have HP := hid p1
  have gl : (s.sts.length : Int) ≤ 32 := by omega
  clear p1 hn32
  have hb0 : Below w.heap.size w (w.alloc (.cells #[.int .u8 kind, .int .i64 (i : Int), .int .i64 tx, .int .i64 at_, .int .i64 v, .int .i64 x, .int .u8 why] 49)) := ext_alloc (ext_refl _) _
  have HB0 := hid hb0
  clear hb0
  go_enter Tryd.func53, Tryd.ntmps53
  go_wp2_with fail
  go_loopw [18] (fun n wr => ∃ k : Nat, k ≤ s.sts.length ∧ n = .int .i64 k ∧ Hid (∀ j, j < k → wakeB s t j = false) ∧ Below w.heap.size w wr) (fun n _ => s.sts.length - (intOf n).toNat)
  case atStart => exact ⟨0, Nat.zero_le _, rfl, hid (fun j hj => by omega), HB0.out⟩
  case round =>
    obtain ⟨k, hk, rfl, HJ, hb⟩ := hrel
    by_cases hlt : k < s.sts.length
    · have d0 := later hb t0
      have d6 := later hb t6
      have hbt := shr_bit t.read k hm
      have gk0 : (0 : Int) ≤ (k : Int) := by omega
      have gk1 : (k : Int) < (s.sts.length : Int) := by omega
      have HKK := hid hlt
      have HBB := hid hb
      have H1 : CkAt wr c tb sb s ev := CkR.below HH.out hb
      have e0 : wr.frozen? ⟨tb, i * 13, none⟩ = false := H1.th.free _
      clear HK
      have HK : Hid (CkR wr c tb sb s.ths.length s.sts.length s.vars s.clock ev (s.ths.map thL) (s.sts.map stL)) := hid H1
      have HT1 : Hid (Turn [c, tb, sb] w wr) := hid (Turn.of_below hb)
      clear H1 hb hlt hk c0 c1 c2 c3 c4 t0 t1 t2 t3 t4 t5 t6 t7 t8 t9 t10 t11 t12 f1 ft0 ft3 ft4 ft5 ft6 ft7 ft8 ft9 ft10 ft11 ft12
      by_cases q1 : t.read.testBit k = true
      · rw [if_pos q1] at hbt
        by_cases q2 : s.own k = -1
        · have k2 : (s.own (k : Int) == -1) = true := by simpa using q2
          by_cases q3 : t.rv < s.ver k
          · have HR := hid (show wakeS s t ⟨kind, i, tx, at_, v, x, why⟩ = _ from if_pos ⟨HP.out, wakesS_yes HKK.out (by unfold wakeB; rw [q1, decide_eq_true ⟨q2, q3⟩]; rfl)⟩)
            clear q1 q2
            go_wp2_with (first | ((with_reducible refine (HF.out _ HBB.out k HKK.out).mono ?_); rintro e' w1 ⟨rfl, rfl⟩) | ((with_reducible refine (HN.out _ HBB.out k HKK.out).mono ?_); rintro e' w1 ⟨rfl, n2, rfl⟩))
            go_ret
            (apply stepP_yes HR.out rfl; (focus (repeat (first | (with_reducible exact HK.out) | (with_reducible apply CkR.drew) | (with_reducible apply CkR.alloc) | (with_reducible apply CkR.drewN) | (with_reducible apply CkR.set_t0; any_goals (exact HI.out)) | (with_reducible apply CkR.set_t; any_goals (first | (exact HI.out) | decide)) | (with_reducible apply CkR.set_s0; any_goals (exact HA.out)) | (with_reducible apply CkR.set_s; any_goals (first | (exact HA.out) | decide)) | (with_reducible apply CkR.set_clock)))); (exact ⟨rfl, rfl⟩); ((try simp only [modify_modify]); exact map_modify' _ _ _ _ _ _ HG.out rfl); rfl; (repeat (first | (with_reducible exact HT1.out) | (with_reducible exact Turn.refl _ _) | (with_reducible refine Turn.drew ?_) | (with_reducible refine Turn.alloc ?_ _) | (with_reducible refine Turn.drewN ?_ _) | (with_reducible refine Turn.setCell ?_ (Or.inl (by simp)) _))))
          · have k3 : decide (t.rv < s.ver (k : Int)) = false := decide_eq_false q3
            have HW : Hid (wakeB s t k = false) := hid (by unfold wakeB; rw [decide_eq_false (fun hh => q3 hh.2), Bool.and_false])
            clear q1 q2 q3
            go_wp2_with (first | ((with_reducible refine (HF.out _ HBB.out k HKK.out).mono ?_); rintro e' w1 ⟨rfl, rfl⟩) | ((with_reducible refine (HN.out _ HBB.out k HKK.out).mono ?_); rintro e' w1 ⟨rfl, n2, rfl⟩))
            go_roundw
            case rel => exact ⟨k + 1, HKK.out, by go_num, hid (fun j hj => by
              by_cases hjk : j = k
              · rw [hjk]; exact HW.out
              · exact HJ.out j (by omega)), ext_drewN HBB.out _⟩
            case measure => (have := HKK.out; simp [intOf]; omega)
        · have k2 : (s.own (k : Int) == -1) = false := by simpa using q2
          have HW : Hid (wakeB s t k = false) := hid (by unfold wakeB; rw [decide_eq_false (fun hh => q2 hh.1), Bool.and_false])
          clear q1 q2
          go_wp2_with ((with_reducible refine (HF.out _ HBB.out k HKK.out).mono ?_); rintro e' w1 ⟨rfl, rfl⟩)
          go_roundw
          case rel => exact ⟨k + 1, HKK.out, by go_num, hid (fun j hj => by
              by_cases hjk : j = k
              · rw [hjk]; exact HW.out
              · exact HJ.out j (by omega)), HBB.out⟩
          case measure => (have := HKK.out; simp [intOf]; omega)
      · rw [if_neg q1] at hbt
        have HW : Hid (wakeB s t k = false) := hid (by unfold wakeB; rw [Bool.eq_false_iff.2 q1, Bool.false_and])
        clear q1
        go_wp2_with fail
        go_roundw
        case rel => exact ⟨k + 1, HKK.out, by go_num, hid (fun j hj => by
              by_cases hjk : j = k
              · rw [hjk]; exact HW.out
              · exact HJ.out j (by omega)), HBB.out⟩
        case measure => (have := HKK.out; simp [intOf]; omega)
    · obtain rfl : k = s.sts.length := by omega
      have HR := hid (show wakeS s t ⟨kind, i, tx, at_, v, x, why⟩ = none from if_neg (fun hh => by rw [wakesS_no HJ.out] at hh; cases hh.2))
      go_wp2_with fail
      go_ret
      exact stepP_no HR.out HH.out rfl hb
end
end Go.Proofs.YtcddlnmcjmhbcaaDoor
