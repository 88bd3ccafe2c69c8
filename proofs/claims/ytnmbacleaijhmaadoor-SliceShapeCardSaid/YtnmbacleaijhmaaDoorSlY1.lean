/-
  Walk: seesawref08.Pairs: are two rows of pairs the same?
-/
import Derived.Test.YtnmbacleaijhmaaDoorSgF
namespace Go.Proofs.YtnmbacleaijhmaaDoor
set_option linter.unusedVariables false
set_option linter.unusedSimpArgs false
set_option linter.unusedVariables false
open Go Go.RowKit
set_option maxRecDepth 100000 in
set_option maxHeartbeats 4000000 in
theorem run_neq_pair (a b c d : Int) (w : World) : (Op.equal 67 (.agg #[.int .i64 a, .int .i64 b]) (.agg #[.int .i64 c, .int .i64 d])).run Tryd.prog w = .ok (a == c && b == d) w := by
  unfold Op.equal Op.maxDepth
  have hu := Tryd.underlying67
  rw [run_equalIn_struct w 9999 67 _ _ (by unfold Program.fieldsOf; rw [hu]) (by kernel_rfl)]
  unfold Program.fieldsOf
  rw [hu]
  clear hu
  simp only [Op.eqFields]
  by_cases h0 : a = c
  case neg => go_simp
  by_cases h1 : b = d
  case neg => go_simp
  go_simp
set_option maxRecDepth 100000 in
set_option maxHeartbeats 4000000 in
theorem pairs_same (l : List (Int × Int)) (w : World) (v u : Value) (hr : RdPairs w l v) (hu : RdPairs w l u) (hl : l.length ≤ 1000000000) :
    Calls Tryd.prog 15 #[v, u] w fun e' w' => e' = .returned (.bool true) ∧ Below w.heap.size w w' := by
  obtain ⟨a, cap, rfl, -, -, hx⟩ := hr
  obtain ⟨a', cap', rfl, -, -, hy⟩ := hu
  have HX := hid hx; clear hx
  have HY := hid hy; clear hy
  have HL := hid hl; clear hl
  have HE := hid (fun a b => run_neq_pair a b a b)
  go_enter Tryd.func15, Tryd.ntmps15
  go_wp2_with fail
  go_loopw [5] (fun i wr => ∃ k : Nat, k ≤ l.length ∧ i = .int .i64 k ∧ Hid (Below w.heap.size w wr)) (fun i _ => l.length - (intOf i).toNat)
  case atStart => exact ⟨0, Nat.zero_le _, rfl, hid (ext_refl _)⟩
  case round =>
    obtain ⟨k, hk, rfl, HBW⟩ := hrel
    by_cases hlt : k < l.length
    · obtain ⟨b, off, rfl, hrd⟩ := HX.out (by intro h; subst h; simp at hlt)
      obtain ⟨b', off', rfl, hrd'⟩ := HY.out (by intro h; subst h; simp at hlt)
      have c0 := later HBW.out (hrd k hlt).1
      have c1 := later HBW.out (hrd k hlt).2
      have d0 := later HBW.out (hrd' k hlt).1
      have d1 := later HBW.out (hrd' k hlt).2
      have hbl := lt_of_cell c0
      have hbl' := lt_of_cell d0
      have j1 : decide ((k : Int) < (l.length : Int)) = true := by rw [decide_eq_true_iff]; omega
      have j2 : (0 : Int) ≤ (k : Int) := by omega
      have j3 : IntKind.i64.wrap ((k : Int) + 1) = ((k + 1 : Nat) : Int) := by have := HL.out; rw [IntWalk.i64_in _ (by omega)]; omega
      have HLT := hid hlt
      clear hrd hrd'
      generalize l[k].1 = x at *
      generalize l[k].2 = y at *
      have he := HE.out x y
      simp only [beq_self_eq_true, Bool.and_self] at he
      go_wp2_with fail
      go_quiet (fail)
      go_wp2_with fail
      go_roundw
      case rel => exact ⟨k + 1, HLT.out, by simp, hid (ext_drewN HBW.out _)⟩
      case measure => have := HLT.out; simp [intOf]; omega
    · obtain rfl : k = l.length := by omega
      have j1 : decide ((l.length : Int) < (l.length : Int)) = false := by rw [decide_eq_false_iff_not]; omega
      go_wp2_with fail
      go_ret
      exact ⟨rfl, HBW.out⟩
end Go.Proofs.YtnmbacleaijhmaaDoor
