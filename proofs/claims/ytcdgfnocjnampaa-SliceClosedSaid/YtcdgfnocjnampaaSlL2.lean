/-
  Walks: the examples of the laws on slices.
-/
import Derived.Test.YtcdgfnocjnampaaSlL1
namespace Go.Proofs.Ytcdgfnocjnampaa
set_option linter.unusedVariables false
set_option linter.unusedSimpArgs false
set_option linter.unusedVariables false
open Go Go.RowKit
def threeL : List Att := [⟨0, 0, 0, 1, 0, 2, true, [], [(0, 0)]⟩, ⟨1, 0, 2, 3, 2, 3, true, [(1, 0)], [(0, 0)]⟩, ⟨2, 0, 4, 5, 0, 1, true, [], [(1, 0)]⟩]
def pairC (p : Int) : Array Value := #[.int .i64 p, .int .i64 0]
def threeC (b : Nat) : Array Value := #[.int .i64 0, .int .i64 0, .int .i64 0, .int .i64 1, .int .i64 0, .int .i64 2, .bool true, .slice none 0 0, .slice (some ⟨b, 0, none⟩) 1 1,
  .int .i64 1, .int .i64 0, .int .i64 2, .int .i64 3, .int .i64 2, .int .i64 3, .bool true, .slice (some ⟨b + 1, 0, none⟩) 1 1, .slice (some ⟨b + 2, 0, none⟩) 1 1,
  .int .i64 2, .int .i64 0, .int .i64 4, .int .i64 5, .int .i64 0, .int .i64 1, .bool true, .slice none 0 0, .slice (some ⟨b + 3, 0, none⟩) 1 1]
set_option maxRecDepth 100000 in
set_option maxHeartbeats 4000000 in
theorem pair_any (p : Int) (w : World) : Calls Try.prog 17 #[.int .i64 p] w fun e w' => e = .returned (.slice (some ⟨w.heap.size, 0, none⟩) 1 1) ∧ w' = w.alloc (.cells #[.int .i64 p, .int .i64 0] 31) := by
  go_enter Try.func17, Try.ntmps17
  go_wp2_with fail
  go_ret
  exact ⟨rfl, rfl⟩
theorem rdPairs_one {w : World} {b : Nat} {p : Int} (h : Blk w b #[.int .i64 p, .int .i64 0] 31) (hp : B64 p) : RdPairs w [(p, 0)] (.slice (some ⟨b, 0, none⟩) 1 1) := by
  refine ⟨_, 1, rfl, by simp, fun q hq => ?_, fun _ => ⟨b, 0, rfl, fun k hk => ?_⟩⟩
  · rw [List.mem_singleton.1 hq]
    exact ⟨hp, by unfold B64; omega⟩
  · obtain rfl : k = 0 := by simpa using hk
    exact ⟨h.cell 0 rfl, h.cell 1 rfl⟩
theorem rdPairs_none (w : World) : RdPairs w [] (.slice none 0 0) := ⟨none, 0, rfl, by simp, (fun q hq => by cases hq), fun h => absurd rfl h⟩
set_option maxRecDepth 100000 in
theorem rdThree {w : World} {b c : Nat} (h0 : Blk w b #[.int .i64 0, .int .i64 0] 31) (h1 : Blk w (b + 1) #[.int .i64 1, .int .i64 0] 31) (h2 : Blk w (b + 2) #[.int .i64 0, .int .i64 0] 31) (h3 : Blk w (b + 3) #[.int .i64 1, .int .i64 0] 31) (h : Blk w c (threeC b) 29) : RdAtts w threeL (.slice (some ⟨c, 0, none⟩) 3 3) := by
  refine ⟨_, 3, rfl, by simp [threeL], fun _ => ⟨c, 0, rfl, fun k hk => ?_⟩⟩
  have e0 : B64 0 := by unfold B64; omega
  have e1 : B64 1 := by unfold B64; omega
  have e2 : B64 2 := by unfold B64; omega
  have e3 : B64 3 := by unfold B64; omega
  have e4 : B64 4 := by unfold B64; omega
  have e5 : B64 5 := by unfold B64; omega
  rcases k with _ | _ | _ | k
  · exact ⟨_, _, ⟨e0, e0, e0, e1, e0, e2⟩, h.cell 0 rfl, h.cell 1 rfl, h.cell 2 rfl, h.cell 3 rfl, h.cell 4 rfl, h.cell 5 rfl, h.cell 6 rfl, h.cell 7 rfl, h.cell 8 rfl, rdPairs_none w, rdPairs_one h0 e0⟩
  · exact ⟨_, _, ⟨e1, e0, e2, e3, e2, e3⟩, h.cell 9 rfl, h.cell 10 rfl, h.cell 11 rfl, h.cell 12 rfl, h.cell 13 rfl, h.cell 14 rfl, h.cell 15 rfl, h.cell 16 rfl, h.cell 17 rfl, rdPairs_one h1 e1, rdPairs_one h2 e0⟩
  · exact ⟨_, _, ⟨e2, e0, e4, e5, e0, e1⟩, h.cell 18 rfl, h.cell 19 rfl, h.cell 20 rfl, h.cell 21 rfl, h.cell 22 rfl, h.cell 23 rfl, h.cell 24 rfl, h.cell 25 rfl, h.cell 26 rfl, rdPairs_none w, rdPairs_one h3 e1⟩
  · simp [threeL] at hk; omega
set_option maxRecDepth 100000 in
set_option maxHeartbeats 4000000 in
theorem three_any (w : World) : Calls Try.prog 11 #[] w fun e w' => ∃ a cap, e = .returned (.slice a 3 cap) ∧ RdAtts w' threeL (.slice a 3 cap) ∧ Below w.heap.size w w' := by
  have HP := hid (pair_any)
  go_enter Try.func11, Try.ntmps11
  go_wp2_with fail
  refine (HP.out 0 _).mono ?_
  rintro e' w1 ⟨rfl, rfl⟩
  go_wp2_with fail
  refine (HP.out 1 _).mono ?_
  rintro e' w1 ⟨rfl, rfl⟩
  go_wp2_with fail
  refine (HP.out 0 _).mono ?_
  rintro e' w1 ⟨rfl, rfl⟩
  go_wp2_with fail
  refine (HP.out 1 _).mono ?_
  rintro e' w1 ⟨rfl, rfl⟩
  go_wp2_with fail
  go_ret
  refine ⟨_, _, rfl, rdThree (b := w.heap.size) (((((Blk.new _ _ _).alloc _).alloc _).alloc _).alloc _) ((((Blk.new' _ _ _ (by simp)).alloc _).alloc _).alloc _) (((Blk.new' _ _ _ (by simp)).alloc _).alloc _) ((Blk.new' _ _ _ (by simp)).alloc _) (Blk.new' _ _ _ (by simp)), by repeat (first | assumption | exact ext_refl _ | refine ext_drew ?_ | refine ext_alloc ?_ _ | refine ext_trans ?_ (by assumption))⟩
theorem kept3_0 : keptL threeL [0] = [1, 2] := by decide +kernel
theorem kept3_5 : keptL threeL [5] = [] := by decide +kernel
theorem kept3_n : keptL threeL [] = [] := by decide +kernel
theorem rdI_one {w : World} {b : Nat} {p : Int} (h : Blk w b #[.int .i64 p] 3) (hp : B64 p) : RdI w [p] (.slice (some ⟨b, 0, none⟩) 1 1) := by
  refine ⟨_, 1, rfl, by simp, fun q hq => by rw [List.mem_singleton.1 hq]; exact hp, fun _ => ⟨b, 0, rfl, fun k hk => ?_⟩, (fun h => by cases h)⟩
  obtain rfl : k = 0 := by simpa using hk
  exact h.cell 0 rfl
theorem rdI_none (w : World) : RdI w [] (.slice none 0 0) := ⟨none, 0, rfl, by simp, (fun q hq => by cases hq), fun h => absurd rfl h, fun _ => rfl⟩
theorem rdNats_12 {w : World} {b : Nat} (h : Blk w b #[.int .i64 1, .int .i64 2] 3) : RdNats w [1, 2] (.slice (some ⟨b, 0, none⟩) 2 2) := by
  refine ⟨_, 2, rfl, fun _ => ⟨b, 0, rfl, fun k hk => ?_⟩⟩
  rcases k with _ | _ | k
  · exact h.cell 0 rfl
  · exact h.cell 1 rfl
  · simp at hk; omega
theorem own_len0 {W : World} {n₀ e : Nat} {v : Value} (h : W.ownsRow n₀ e 1 v 0 (natV [])) : ∃ a c, v = .slice a 0 c := by
  rcases h.2 with ⟨rfl, _⟩ | ⟨g, cap, cur, rfl, _⟩
  · exact ⟨none, 0, rfl⟩
  · exact ⟨_, _, rfl⟩
theorem own_sl {W : World} {n₀ e size n : Nat} {v : Value} {xs : List Value} (h : W.ownsRow n₀ e size v n xs) : ∃ a c, v = .slice a n c := by
  rcases h.2 with ⟨rfl, h0⟩ | ⟨g, cap, cur, rfl, _⟩
  · exact ⟨none, 0, by rw [h0]⟩
  · exact ⟨_, _, rfl⟩
set_option maxRecDepth 100000 in
set_option maxHeartbeats 4000000 in
theorem works_any (w : World) : Calls Try.prog 5 #[] w fun e w' => e = .returned (.bool true) ∧ Below w.heap.size w w' := by
  have HT := hid three_any
  have HK0 : Hid (∀ w vl vv, RdAtts w threeL vl → RdI w [0] vv → Calls Try.prog 7 #[vl, vv] w fun e w' => ∃ a c, e = .returned (.slice a 2 c) ∧ RdNats w' [1, 2] (.slice a 2 c) ∧ Below w.heap.size w w') := hid (fun w vl vv h1 h2 => (kept_any threeL [0] w vl vv h1 h2 (by decide +kernel) (by decide)).mono (by
    rintro e w' ⟨v, rfl, h3, h4⟩
    rw [kept3_0] at h3
    obtain ⟨a, c, rfl⟩ := own_sl h3
    exact ⟨a, c, rfl, rdNats_of_own h3, h4⟩))
  have HK5 : Hid (∀ w vl vv, RdAtts w threeL vl → RdI w [5] vv → Calls Try.prog 7 #[vl, vv] w fun e w' => ∃ a c, e = .returned (.slice a 0 c) ∧ Below w.heap.size w w') := hid (fun w vl vv h1 h2 => (kept_any threeL [5] w vl vv h1 h2 (by decide +kernel) (by decide)).mono (by
    rintro e w' ⟨v, rfl, h3, h4⟩
    rw [kept3_5] at h3
    obtain ⟨a, c, rfl⟩ := own_len0 h3
    exact ⟨a, c, rfl, h4⟩))
  have HKN : Hid (∀ w vl vv, RdAtts w threeL vl → RdI w [] vv → Calls Try.prog 7 #[vl, vv] w fun e w' => ∃ a c, e = .returned (.slice a 0 c) ∧ Below w.heap.size w w') := hid (fun w vl vv h1 h2 => (kept_any threeL [] w vl vv h1 h2 (by decide +kernel) (by decide)).mono (by
    rintro e w' ⟨v, rfl, h3, h4⟩
    rw [kept3_n] at h3
    obtain ⟨a, c, rfl⟩ := own_len0 h3
    exact ⟨a, c, rfl, h4⟩))
  have HN : Hid (∀ w v u, RdNats w [1, 2] v → RdNats w [1, 2] u → Calls Try.prog 10 #[v, u] w fun e' w' => e' = .returned (.bool true) ∧ Below w.heap.size w w') := hid (fun w v u h1 h2 => by have := numbers_any [1, 2] [1, 2] w v u h1 h2 (by decide) (by decide); rwa [decide_eq_true rfl] at this)
  have e0 : B64 0 := by unfold B64; omega
  have e5 : B64 5 := by unfold B64; omega
  have E0 := hid e0
  have E5 := hid e5
  clear e0 e5
  go_enter Try.func5, Try.ntmps5
  go_wp2_with fail
  refine (HT.out _).mono ?_
  rintro e' w1 ⟨a1, c1, rfl, hr1, hb1⟩
  have HR1 := hid (hr1.below (ext_alloc (ext_refl _) (.cells #[.int .i64 0] 3)))
  have HI1 := hid (rdI_one (Blk.new w1 #[.int .i64 0] 3) E0.out)
  have hB1 := ext_alloc hb1 (.cells #[.int .i64 0] 3)
  clear hr1
  go_wp2_with fail
  refine (HK0.out _ _ _ HR1.out HI1.out).mono ?_
  rintro e' w2 ⟨a2, c2, rfl, hr2, hb2⟩
  have HR2 := hid (hr2.below (ext_alloc (ext_refl _) (.cells #[.int .i64 1, .int .i64 2] 3)))
  have HI2 := hid (rdNats_12 (Blk.new w2 #[.int .i64 1, .int .i64 2] 3))
  have hB2 := ext_alloc (ext_trans hB1 hb2) (.cells #[.int .i64 1, .int .i64 2] 3)
  clear hr2
  go_wp2_with fail
  refine (HN.out _ _ _ HR2.out HI2.out).mono ?_
  rintro e' w3 ⟨rfl, hb3⟩
  have hB3 := ext_trans hB2 hb3
  go_wp2_with fail
  refine (HT.out _).mono ?_
  rintro e' w4 ⟨a4, c4, rfl, hr4, hb4⟩
  have HR4 := hid (hr4.below (ext_alloc (ext_refl _) (.cells #[.int .i64 5] 3)))
  have HI4 := hid (rdI_one (Blk.new w4 #[.int .i64 5] 3) E5.out)
  have hB4 := ext_alloc (ext_trans hB3 hb4) (.cells #[.int .i64 5] 3)
  clear hr4
  go_wp2_with fail
  refine (HK5.out _ _ _ HR4.out HI4.out).mono ?_
  rintro e' w5 ⟨a5, c5, rfl, hb5⟩
  have hB5 := ext_trans hB4 hb5
  go_wp2_with fail
  refine (HT.out _).mono ?_
  rintro e' w6 ⟨a6, c6, rfl, hr6, hb6⟩
  have hB6 := ext_trans hB5 hb6
  have HR6 := hid hr6
  clear hr6
  go_wp2_with fail
  refine (HKN.out _ _ _ HR6.out (rdI_none _)).mono ?_
  rintro e' w7 ⟨a7, c7, rfl, hb7⟩
  have hB7 := ext_trans hB6 hb7
  go_wp2_with fail
  go_ret
  exact ⟨rfl, hB7⟩
end Go.Proofs.Ytcdgfnocjnampaa
