/-
  Walk: seesawref15.Same over the same traces.
-/
import Derived.Test.YtnmbacleaijhmaaDoorSlC4
namespace Go.Proofs.YtnmbacleaijhmaaDoor
set_option linter.unusedVariables false
set_option linter.unusedSimpArgs false
set_option linter.unusedVariables false
open Go Go.RowKit
set_option maxRecDepth 100000 in
set_option maxHeartbeats 4000000 in
theorem same_tr (T V S : Int) (a a' : Option Addr) (l : List Ev) (ca ca' : Nat) (w : World) (hE : EvsAt w a l) (hE' : EvsAt w a' l) (hl : l.length ≤ 1000000000) :
    Calls Tryd.prog 16 #[trA T V S a l.length ca, trA T V S a' l.length ca'] w fun e' w' => e' = .returned (.bool true) ∧ Below w.heap.size w w' := by
  dsimp only [trA]
  obtain ⟨W, hW⟩ : ∃ W, W = (w.alloc (.cells #[.int .i64 T, .int .i64 V, .int .i64 S, .slice a l.length ca] 36)).alloc (.cells #[.int .i64 T, .int .i64 V, .int .i64 S, .slice a' l.length ca'] 36) := ⟨_, rfl⟩
  have hB : Below w.heap.size w W := by rw [hW]; exact ext_alloc (ext_alloc (ext_refl _) _) _
  have hD : Blk W w.heap.size #[.int .i64 T, .int .i64 V, .int .i64 S, .slice a l.length ca] 36 := by rw [hW]; exact (Blk.new _ _ _).alloc _
  have hD' : Blk W (w.heap.size + 1) #[.int .i64 T, .int .i64 V, .int .i64 S, .slice a' l.length ca'] 36 := by rw [hW]; exact Blk.new' _ _ _ (World.size_alloc _ _).symm
  have HE := hid (hE.below hB)
  have HE' := hid (hE'.below hB)
  have HB := hid hB
  have HD := hid hD
  have HD' := hid hD'
  have HL := hid hl
  have HEQ := hid run_eql_ev
  have HW := hid hW
  have d0 := hD.cell 0 (v := .int .i64 T) rfl
  have d1 := hD.cell 1 (v := .int .i64 V) rfl
  have d2 := hD.cell 2 (v := .int .i64 S) rfl
  have d3 := hD.cell 3 (v := .slice a l.length ca) rfl
  have f0 := hD'.cell 0 (v := .int .i64 T) rfl
  have f1 := hD'.cell 1 (v := .int .i64 V) rfl
  have f2 := hD'.cell 2 (v := .int .i64 S) rfl
  have f3 := hD'.cell 3 (v := .slice a' l.length ca') rfl
  clear hE hE' hl hB hD hD' hW
  go_enter Tryd.func16, Tryd.ntmps16
  rw [HW.out] at d0 d1 d2 d3 f0 f1 f2 f3
  go_wp2_with fail
  rw [← HW.out]
  clear d0 d1 d2 d3 f0 f1 f2 f3
  go_loopw [5] (fun i wr => ∃ k : Nat, k ≤ l.length ∧ i = .int .i64 k ∧ Hid (Below W.heap.size W wr)) (fun i _ => l.length - (intOf i).toNat)
  case atStart => exact ⟨0, Nat.zero_le _, rfl, hid (ext_refl _)⟩
  case round =>
    obtain ⟨k, hk, rfl, HBW⟩ := hrel
    have hd := HD.out.below HBW.out
    have hd' := HD'.out.below HBW.out
    have d3 := hd.cell 3 (v := .slice a l.length ca) rfl
    have f3 := hd'.cell 3 (v := .slice a' l.length ca') rfl
    clear hd hd'
    by_cases hlt : k < l.length
    · obtain ⟨b, o, hae, hcell⟩ := HE.out.2 (by intro h; rw [h] at hlt; simp at hlt)
      obtain ⟨b', o', hae', hcell'⟩ := HE'.out.2 (by intro h; rw [h] at hlt; simp at hlt)
      subst hae hae'
      have j1 : decide ((k : Int) < (l.length : Int)) = true := by rw [decide_eq_true_iff]; omega
      have j2 : (0 : Int) ≤ (k : Int) := by omega
      have j3 : IntKind.i64.wrap ((k : Int) + 1) = ((k + 1 : Nat) : Int) := by have := HL.out; rw [IntWalk.i64_in _ (by omega)]; omega
      have hrun := HEQ.out l[k] l[k]
      have hself : evEqB l[k] l[k] = true := by unfold evEqB; simp
      rw [hself] at hrun
      have hc1 := hcell k hlt
      have hc2 := hcell' k hlt
      generalize l[k] = X at *
      obtain ⟨kind, th, tx, at_, v, x, why⟩ := X
      have e0 := later HBW.out (hc1 0 (.int .u8 kind) rfl)
      have e1 := later HBW.out (hc1 1 (.int .i64 th) rfl)
      have e2 := later HBW.out (hc1 2 (.int .i64 tx) rfl)
      have e3 := later HBW.out (hc1 3 (.int .i64 at_) rfl)
      have e4 := later HBW.out (hc1 4 (.int .i64 v) rfl)
      have e5 := later HBW.out (hc1 5 (.int .i64 x) rfl)
      have e6 := later HBW.out (hc1 6 (.int .u8 why) rfl)
      have g0 := later HBW.out (hc2 0 (.int .u8 kind) rfl)
      have g1 := later HBW.out (hc2 1 (.int .i64 th) rfl)
      have g2 := later HBW.out (hc2 2 (.int .i64 tx) rfl)
      have g3 := later HBW.out (hc2 3 (.int .i64 at_) rfl)
      have g4 := later HBW.out (hc2 4 (.int .i64 v) rfl)
      have g5 := later HBW.out (hc2 5 (.int .i64 x) rfl)
      have g6 := later HBW.out (hc2 6 (.int .u8 why) rfl)
      rw [Nat.add_zero] at e0 g0
      have hbl := lt_of_cell e0
      have hbl' := lt_of_cell g0
      unfold Op.equal Op.maxDepth at hrun
      dsimp only at hrun
      have HLT := hid hlt
      clear hcell hcell' hc1 hc2 hself
      go_wp2_with fail
      go_quiet (fail)
      go_wp2_with fail
      go_roundw
      case rel => exact ⟨k + 1, HLT.out, by go_num, hid (by first | exact ext_drewN HBW.out _ | exact HBW.out)⟩
      case measure => have := HLT.out; simp [intOf]; omega
    · obtain rfl : k = l.length := by omega
      have j1 : decide ((l.length : Int) < (l.length : Int)) = false := by rw [decide_eq_false_iff_not]; omega
      go_wp2_with fail
      go_ret
      exact ⟨rfl, ext_trans HB.out HBW.out⟩
end Go.Proofs.YtnmbacleaijhmaaDoor
