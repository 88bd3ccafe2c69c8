/-
  Walks: numbers compared; the numbers of a setup without threads; the examples (awake).
-/
import Derived.Test.YtonckpblbdopmaaSeW1
namespace Go.Proofs.Ytonckpblbdopmaa
set_option linter.unusedVariables false
open Go Go.RowKit

set_option maxRecDepth 100000 in
set_option maxHeartbeats 4000000 in
theorem numbers_any (l m : List Int) (w : World) (v u : Value) (hl : RdInts w l v) (hm : RdInts w m u) : Calls Try.prog 33 #[v, u] w fun e w' => e = .returned (.bool (decide (l = m))) ∧ Below w.heap.size w w' := by
  obtain ⟨a, cap, rfl, hl1, -, hl2⟩ := hl
  obtain ⟨a', cap', rfl, hm1, -, hm2⟩ := hm
  have HL := hid hl2
  have HM := hid hm2
  clear hl2 hm2
  by_cases hlen : l.length = m.length
  · have ht : ((l.length : Int) != (m.length : Int)) = false := by rw [bne_eq_false_iff_eq]; omega
    have HLEN := hid hlen
    clear hlen
    go_enter Try.func33, Try.ntmps33
    go_wp2_with fail
    go_loopw [5] (fun i wr => ∃ k : Nat, k ≤ l.length ∧ i = .int .i64 k ∧ Hid (l.take k = m.take k) ∧ Below w.heap.size w wr) (fun i _ => l.length - (intOf i).toNat)
    case atStart => exact ⟨0, by omega, rfl, hid (by simp), ext_refl _⟩
    case round =>
      obtain ⟨k, hk, rfl, HT, hb⟩ := hrel
      by_cases hlt : k < l.length
      · have hlt2 : k < m.length := by have := HLEN.out; omega
        obtain ⟨b, off, rfl, hc⟩ := HL.out (by intro h; subst h; simp at hlt)
        obtain ⟨b', off', rfl, hc'⟩ := HM.out (by intro h; subst h; simp at hlt2)
        have c0 := later hb (hc k hlt)
        have c1 := later hb (hc' k hlt2)
        have hk1 : (k : Int) < (l.length : Int) := by omega
        have hk2 : (k : Int) < (m.length : Int) := by omega
        clear hc hc'
        by_cases he : l[k] = m[k]
        · have ht2 : (l[k] != m[k]) = false := by rw [bne_eq_false_iff_eq]; exact he
          have HE := hid he
          clear he
          have hs : l.take (k + 1) = m.take (k + 1) := by
            rw [List.take_succ_eq_append_getElem hlt, List.take_succ_eq_append_getElem hlt2, HT.out, HE.out]
          have HS := hid hs
          clear hs
          go_wp2_with fail
          go_quiet (fail)
          go_wp2_with fail
          go_roundw
          case rel => exact ⟨k + 1, by omega, by go_num, HS, ext_drewN hb _⟩
          case measure => simp [intOf]; omega
        · have ht2 : (l[k] != m[k]) = true := by rw [bne_iff_ne]; exact he
          have hne : l ≠ m := fun h => he (by subst h; rfl)
          have HNE := hid hne
          clear he hne
          go_wp2_with fail
          go_quiet (fail)
          go_wp2_with fail
          go_ret
          exact ⟨ret_bool (by simp [HNE.out]), ext_drewN hb _⟩
      · obtain rfl : k = l.length := by omega
        have heq : l = m := by
          have h := HT.out
          rwa [List.take_length, HLEN.out, List.take_length] at h
        have HEQ := hid heq
        clear heq
        go_wp2_with fail
        go_ret
        exact ⟨ret_bool (by simp [HEQ.out]), hb⟩
  · have ht : ((l.length : Int) != (m.length : Int)) = true := by rw [bne_iff_ne]; omega
    have hne : l ≠ m := fun h => hlen (by rw [h])
    have HNE := hid hne
    clear hlen hne
    go_enter Try.func33, Try.ntmps33
    go_wp2_with fail
    go_ret
    exact ⟨ret_bool (by simp [HNE.out]), ext_refl _⟩

set_option maxRecDepth 100000 in
set_option maxHeartbeats 4000000 in
theorem within_yes (n lo hi : Int) (w : World) (h1 : lo ≤ n) (h2 : n ≤ hi) : Calls Try.prog 77 #[.int .i64 n, .int .i64 lo, .int .i64 hi] w fun e w' => e = .returned (.bool true) ∧ w = w' := by
  go_enter Try.func77, Try.ntmps77
  go_wp2_with fail
  go_ret
  exact ⟨rfl, rfl⟩
set_option maxRecDepth 100000 in
set_option maxHeartbeats 4000000 in
theorem within_no (n lo hi : Int) (w : World) (h : n < lo ∨ (lo ≤ n ∧ hi < n)) : Calls Try.prog 77 #[.int .i64 n, .int .i64 lo, .int .i64 hi] w fun e w' => e = .returned (.bool false) ∧ w = w' := by
  rcases h with h | ⟨h1, h2⟩
  · have d : decide (lo ≤ n) = false := by rw [decide_eq_false_iff_not]; omega
    go_enter Try.func77, Try.ntmps77
    go_wp2_with fail
    go_ret
    exact ⟨rfl, rfl⟩
  · have d : decide (n ≤ hi) = false := by rw [decide_eq_false_iff_not]; omega
    go_enter Try.func77, Try.ntmps77
    go_wp2_with fail
    go_ret
    exact ⟨rfl, rfl⟩

set_option maxRecDepth 100000 in
set_option maxHeartbeats 4000000 in
theorem check_one (g : Nat) (w : World) : Calls Try.prog 46 #[.agg #[.int .i64 1, .int .i64 0, .int .i64 1, .slice (some ⟨g, 0, none⟩) 1 1, .slice none 0 0]] w fun e w' => e = .returned (.int .i64 0) ∧ Below w.heap.size w w' := by
  go_enter Try.func46, Try.ntmps46
  go_wp2_with fail
  refine (within_yes 1 1 32 _ (by decide) (by decide)).mono ?_
  rintro e' w1 ⟨rfl, rfl⟩
  go_wp2_with fail
  refine (within_yes 1 1 1 _ (by decide) (by decide)).mono ?_
  rintro e' w1 ⟨rfl, rfl⟩
  go_wp2_with fail
  refine (within_yes 0 0 1099511627776 _ (by decide) (by decide)).mono ?_
  rintro e' w1 ⟨rfl, rfl⟩
  go_wp2_with fail
  refine (within_yes 1 1 1000 _ (by decide) (by decide)).mono ?_
  rintro e' w1 ⟨rfl, rfl⟩
  go_wp2_with fail
  go_loopw [47] (fun i wr => i = .int .i64 0 ∧ Below w.heap.size w wr) (fun _ _ => 0)
  case atStart => exact ⟨rfl, ext_alloc (ext_refl _) _⟩
  case round =>
    obtain ⟨rfl, hb⟩ := hrel
    go_wp2_with fail
    go_ret
    exact ⟨rfl, hb⟩
set_option maxRecDepth 100000 in
set_option maxHeartbeats 4000000 in
theorem check_two (g : Nat) (w : World) : Calls Try.prog 46 #[.agg #[.int .i64 2, .int .i64 0, .int .i64 1, .slice (some ⟨g, 0, none⟩) 1 1, .slice none 0 0]] w fun e w' => e = .returned (.int .i64 4) ∧ Below w.heap.size w w' := by
  go_enter Try.func46, Try.ntmps46
  go_wp2_with fail
  refine (within_yes 1 1 32 _ (by decide) (by decide)).mono ?_
  rintro e' w1 ⟨rfl, rfl⟩
  go_wp2_with fail
  refine (within_no 2 1 1 _ (by omega)).mono ?_
  rintro e' w1 ⟨rfl, rfl⟩
  go_wp2_with fail
  go_ret
  exact ⟨rfl, ext_alloc (ext_refl _) _⟩

set_option maxRecDepth 100000 in
set_option maxHeartbeats 4000000 in
theorem sawake_any (w : World) : Calls Try.prog 28 #[] w fun e w' => e = .returned (.bool true) ∧ Below w.heap.size w w' := by
  go_enter Try.func28, Try.ntmps28
  go_wp2_with fail
  refine (stripe_any 5 3 _ (by decide) (by decide)).mono ?_
  rw [show stripeS 5 3 = (2, 0) by decide +kernel]
  rintro e' w1 ⟨rfl, rfl⟩
  go_wp2_with fail
  refine (vars_ok 2 3 9 _ (by decide) (by decide) (by decide) (by decide)).mono ?_
  rw [show varL 2 3 9 = [2, 5, 8] by decide +kernel]
  rintro e' w1 ⟨v, rfl, hv, -, hb1⟩
  have HV := hid hv
  clear hv
  go_wp2_with fail
  refine (check_one _ _).mono ?_
  rintro e' w2 ⟨rfl, hb2⟩
  go_wp2_with fail
  refine (check_two _ _).mono ?_
  rintro e' w3 ⟨rfl, hb3⟩
  go_wp2_with fail
  refine (numbers_any [2, 5, 8] [2, 5, 8] _ _ _ ?_ ?_).mono ?_
  · exact (HV.out.below (by repeat (first | assumption | exact ext_refl _ | refine ext_drew ?_ | refine ext_alloc ?_ _ | refine ext_trans ?_ (by assumption))))
  · have hN := Blk.new w3 #[.int .i64 2, .int .i64 5, .int .i64 8] 3
    refine ⟨_, _, rfl, by simp, by simp, fun _ => ⟨w3.heap.size, 0, rfl, fun k hk => ?_⟩⟩
    match k, hk with
    | 0, _ => exact hN.cell 0 rfl
    | 1, _ => exact hN.cell 1 rfl
    | 2, _ => exact hN.cell 2 rfl
  rintro e' w4 ⟨rfl, hb4⟩
  go_wp2_with fail
  go_ret
  exact ⟨rfl, by repeat (first | assumption | exact ext_refl _ | refine ext_drew ?_ | refine ext_alloc ?_ _ | refine ext_trans ?_ (by assumption))⟩
end Go.Proofs.Ytonckpblbdopmaa
