/-
  Walks: event.May and what it calls.
-/
import Derived.Test.YtokkafiphchejaaDoorProg
import Derived.Test.YtokkafiphchejaaDoorTurn
import Derived.Test.YtokkafiphchejaaDoorShD
import Derived.Deep.QuietTactic
import Derived.BigQuiet
import Derived.Deep.RegionHeld3
namespace Go.Proofs.YtokkafiphchejaaDoor
set_option linter.unusedVariables false
open Go Go.RowKit

/-- An event, as a value. -/
def evL (e : Ev) : List Value := [.int .u8 e.kind, .int .i64 e.th, .int .i64 e.tx, .int .i64 e.at_, .int .i64 e.v, .int .i64 e.x, .int .u8 e.why]
def evA (e : Ev) : Value := .agg #[.int .u8 e.kind, .int .i64 e.th, .int .i64 e.tx, .int .i64 e.at_, .int .i64 e.v, .int .i64 e.x, .int .u8 e.why]
def evC (e : Ev) : Array Value := #[.int .u8 e.kind, .int .i64 e.th, .int .i64 e.tx, .int .i64 e.at_, .int .i64 e.v, .int .i64 e.x, .int .u8 e.why]
/-- The numbers of an event fit their kinds. -/
def EvOk (e : Ev) : Prop := (0 ≤ e.kind ∧ e.kind ≤ 255) ∧ (-9223372036854775808 ≤ e.th ∧ e.th ≤ 9223372036854775807) ∧ (-9223372036854775808 ≤ e.tx ∧ e.tx ≤ 9223372036854775807) ∧ (-9223372036854775808 ≤ e.at_ ∧ e.at_ ≤ 9223372036854775807) ∧
  (-9223372036854775808 ≤ e.v ∧ e.v ≤ 9223372036854775807) ∧ (-9223372036854775808 ≤ e.x ∧ e.x ≤ 9223372036854775807) ∧ (0 ≤ e.why ∧ e.why ≤ 255)

set_option maxRecDepth 100000 in
set_option maxHeartbeats 4000000 in
theorem within_yes (n a b : Int) (w : World) (h1 : a ≤ n) (h2 : n ≤ b) : Calls Tryd.prog 51 #[.int .i64 n, .int .i64 a, .int .i64 b] w fun e w' => e = .returned (.bool true) ∧ w = w' := by
  go_enter Tryd.func51, Tryd.ntmps51
  go_wp2_with fail
  go_ret
  exact ⟨by simp, rfl⟩
set_option maxRecDepth 100000 in
set_option maxHeartbeats 4000000 in
theorem within_no (n a b : Int) (w : World) (h : n < a ∨ b < n) : Calls Tryd.prog 51 #[.int .i64 n, .int .i64 a, .int .i64 b] w fun e w' => e = .returned (.bool false) ∧ w = w' := by
  by_cases h1 : n < a
  · go_enter Tryd.func51, Tryd.ntmps51
    go_wp2_with fail
    go_ret
    exact ⟨rfl, rfl⟩
  · have h2 : b < n := by omega
    have h3 : a ≤ n := by omega
    clear h h1
    go_enter Tryd.func51, Tryd.ntmps51
    go_wp2_with fail
    go_ret
    exact ⟨by simp; omega, rfl⟩
def inB (n a b : Int) : Bool := decide (a ≤ n ∧ n ≤ b)
theorem within_any (n a b : Int) (w : World) : Calls Tryd.prog 51 #[.int .i64 n, .int .i64 a, .int .i64 b] w fun e w' => e = .returned (.bool (inB n a b)) ∧ w = w' := by
  by_cases h : a ≤ n ∧ n ≤ b
  · refine (within_yes n a b w h.1 h.2).mono ?_
    rintro e w' ⟨rfl, rfl⟩
    exact ⟨by simp [inB, h], rfl⟩
  · refine (within_no n a b w (by omega)).mono ?_
    rintro e w' ⟨rfl, rfl⟩
    exact ⟨by simp [inB, h], rfl⟩
set_option maxRecDepth 100000 in
set_option maxHeartbeats 4000000 in
theorem known_any (k : Int) (w : World) : Calls Tryd.prog 52 #[.int .u8 k] w fun e w' => e = .returned (.bool (inB k 1 13)) ∧ w = w' := by
  by_cases h1 : k < 1
  · have HI : Hid (inB k 1 13 = false) := hid (by unfold inB; rw [decide_eq_false_iff_not]; omega)
    go_enter Tryd.func52, Tryd.ntmps52
    go_wp2_with fail
    go_ret
    rw [HI.out]; exact ⟨rfl, rfl⟩
  · have h3 : 1 ≤ k := by omega
    have HI : Hid (inB k 1 13 = decide (k ≤ 13)) := hid (by unfold inB; simp [h3])
    go_enter Tryd.func52, Tryd.ntmps52
    go_wp2_with fail
    go_ret
    rw [HI.out]; exact ⟨rfl, rfl⟩

set_option maxRecDepth 100000 in
set_option maxHeartbeats 4000000 in
theorem get_tx (b : Nat) (n : Int) (w : World) (hc : w.cell? ⟨b, 2, none⟩ = some (.int .i64 n)) (h : -9223372036854775808 ≤ n ∧ n ≤ 9223372036854775807) :
    Calls Tryd.prog 99 #[.pointer (some ⟨b, 0, none⟩), .slice none 0 0] w fun e w' => e = .returned (.int .i64 n) ∧ w = w' := by
  go_enter Tryd.func99, Tryd.ntmps99
  go_wp2_with fail
  refine wp_loop_rounds 1 ?_; rw [rounds_succ]
  go_wp2_with fail
  go_ret
  exact ⟨rfl, rfl⟩
set_option maxRecDepth 100000 in
set_option maxHeartbeats 4000000 in
theorem put_tx (b q : Nat) (n : Int) (cs : Array Value) (t : TypeId) (w : World) (hb : Blk w b cs t) (hs : 2 < cs.size) (hne : q ≠ b) (hq : w.cell? ⟨q, 0, none⟩ = some (.int .i64 n)) (h : -9223372036854775808 ≤ n ∧ n ≤ 9223372036854775807) :
    Calls Tryd.prog 99 #[.pointer (some ⟨b, 0, none⟩), .slice (some ⟨q, 0, none⟩) 1 1] w fun e w' => e = .returned (.int .i64 n) ∧ Blk w' b (cs.setIfInBounds 2 (.int .i64 n)) t ∧ Turn [b] w w' := by
  have HB := hid (hb.set 2 (.int .i64 n))
  have hc : w.cell? ⟨b, 2, none⟩ = some cs[2] := hb.cell 2 (by simp [hs])
  have hf : w.frozen? ⟨b, 2, none⟩ = false := hb.free 2
  have hc2 : (w.setCell ⟨b, 2, none⟩ (.int .i64 n)).cell? ⟨b, 2, none⟩ = some (.int .i64 n) := (hb.set 2 (.int .i64 n)).cell 2 (by simp [hs])
  clear hb
  go_enter Tryd.func99, Tryd.ntmps99
  go_wp2_with fail
  refine wp_loop_rounds 2 ?_; rw [rounds_succ]
  go_wp2_with fail
  rw [rounds_succ]
  go_wp2_with fail
  go_ret
  exact ⟨rfl, HB.out, (Turn.refl _ _).setCell (Or.inl (by simp)) _⟩

set_option maxRecDepth 100000 in
set_option maxHeartbeats 4000000 in
theorem get_at (b : Nat) (n : Int) (w : World) (hc : w.cell? ⟨b, 3, none⟩ = some (.int .i64 n)) (h : -9223372036854775808 ≤ n ∧ n ≤ 9223372036854775807) :
    Calls Tryd.prog 97 #[.pointer (some ⟨b, 0, none⟩), .slice none 0 0] w fun e w' => e = .returned (.int .i64 n) ∧ w = w' := by
  go_enter Tryd.func97, Tryd.ntmps97
  go_wp2_with fail
  refine wp_loop_rounds 1 ?_; rw [rounds_succ]
  go_wp2_with fail
  go_ret
  exact ⟨rfl, rfl⟩
set_option maxRecDepth 100000 in
set_option maxHeartbeats 4000000 in
theorem put_at (b q : Nat) (n : Int) (cs : Array Value) (t : TypeId) (w : World) (hb : Blk w b cs t) (hs : 3 < cs.size) (hne : q ≠ b) (hq : w.cell? ⟨q, 0, none⟩ = some (.int .i64 n)) (h : -9223372036854775808 ≤ n ∧ n ≤ 9223372036854775807) :
    Calls Tryd.prog 97 #[.pointer (some ⟨b, 0, none⟩), .slice (some ⟨q, 0, none⟩) 1 1] w fun e w' => e = .returned (.int .i64 n) ∧ Blk w' b (cs.setIfInBounds 3 (.int .i64 n)) t ∧ Turn [b] w w' := by
  have HB := hid (hb.set 3 (.int .i64 n))
  have hc : w.cell? ⟨b, 3, none⟩ = some cs[3] := hb.cell 3 (by simp [hs])
  have hf : w.frozen? ⟨b, 3, none⟩ = false := hb.free 3
  have hc2 : (w.setCell ⟨b, 3, none⟩ (.int .i64 n)).cell? ⟨b, 3, none⟩ = some (.int .i64 n) := (hb.set 3 (.int .i64 n)).cell 3 (by simp [hs])
  clear hb
  go_enter Tryd.func97, Tryd.ntmps97
  go_wp2_with fail
  refine wp_loop_rounds 2 ?_; rw [rounds_succ]
  go_wp2_with fail
  rw [rounds_succ]
  go_wp2_with fail
  go_ret
  exact ⟨rfl, HB.out, (Turn.refl _ _).setCell (Or.inl (by simp)) _⟩

set_option maxRecDepth 100000 in
set_option maxHeartbeats 4000000 in
theorem get_v (b : Nat) (n : Int) (w : World) (hc : w.cell? ⟨b, 4, none⟩ = some (.int .i64 n)) (h : -9223372036854775808 ≤ n ∧ n ≤ 9223372036854775807) :
    Calls Tryd.prog 100 #[.pointer (some ⟨b, 0, none⟩), .slice none 0 0] w fun e w' => e = .returned (.int .i64 n) ∧ w = w' := by
  go_enter Tryd.func100, Tryd.ntmps100
  go_wp2_with fail
  refine wp_loop_rounds 1 ?_; rw [rounds_succ]
  go_wp2_with fail
  go_ret
  exact ⟨rfl, rfl⟩
set_option maxRecDepth 100000 in
set_option maxHeartbeats 4000000 in
theorem put_v (b q : Nat) (n : Int) (cs : Array Value) (t : TypeId) (w : World) (hb : Blk w b cs t) (hs : 4 < cs.size) (hne : q ≠ b) (hq : w.cell? ⟨q, 0, none⟩ = some (.int .i64 n)) (h : -9223372036854775808 ≤ n ∧ n ≤ 9223372036854775807) :
    Calls Tryd.prog 100 #[.pointer (some ⟨b, 0, none⟩), .slice (some ⟨q, 0, none⟩) 1 1] w fun e w' => e = .returned (.int .i64 n) ∧ Blk w' b (cs.setIfInBounds 4 (.int .i64 n)) t ∧ Turn [b] w w' := by
  have HB := hid (hb.set 4 (.int .i64 n))
  have hc : w.cell? ⟨b, 4, none⟩ = some cs[4] := hb.cell 4 (by simp [hs])
  have hf : w.frozen? ⟨b, 4, none⟩ = false := hb.free 4
  have hc2 : (w.setCell ⟨b, 4, none⟩ (.int .i64 n)).cell? ⟨b, 4, none⟩ = some (.int .i64 n) := (hb.set 4 (.int .i64 n)).cell 4 (by simp [hs])
  clear hb
  go_enter Tryd.func100, Tryd.ntmps100
  go_wp2_with fail
  refine wp_loop_rounds 2 ?_; rw [rounds_succ]
  go_wp2_with fail
  rw [rounds_succ]
  go_wp2_with fail
  go_ret
  exact ⟨rfl, HB.out, (Turn.refl _ _).setCell (Or.inl (by simp)) _⟩

set_option maxRecDepth 100000 in
set_option maxHeartbeats 4000000 in
theorem get_x (b : Nat) (n : Int) (w : World) (hc : w.cell? ⟨b, 5, none⟩ = some (.int .i64 n)) (h : -9223372036854775808 ≤ n ∧ n ≤ 9223372036854775807) :
    Calls Tryd.prog 101 #[.pointer (some ⟨b, 0, none⟩), .slice none 0 0] w fun e w' => e = .returned (.int .i64 n) ∧ w = w' := by
  go_enter Tryd.func101, Tryd.ntmps101
  go_wp2_with fail
  refine wp_loop_rounds 1 ?_; rw [rounds_succ]
  go_wp2_with fail
  go_ret
  exact ⟨rfl, rfl⟩
set_option maxRecDepth 100000 in
set_option maxHeartbeats 4000000 in
theorem put_x (b q : Nat) (n : Int) (cs : Array Value) (t : TypeId) (w : World) (hb : Blk w b cs t) (hs : 5 < cs.size) (hne : q ≠ b) (hq : w.cell? ⟨q, 0, none⟩ = some (.int .i64 n)) (h : -9223372036854775808 ≤ n ∧ n ≤ 9223372036854775807) :
    Calls Tryd.prog 101 #[.pointer (some ⟨b, 0, none⟩), .slice (some ⟨q, 0, none⟩) 1 1] w fun e w' => e = .returned (.int .i64 n) ∧ Blk w' b (cs.setIfInBounds 5 (.int .i64 n)) t ∧ Turn [b] w w' := by
  have HB := hid (hb.set 5 (.int .i64 n))
  have hc : w.cell? ⟨b, 5, none⟩ = some cs[5] := hb.cell 5 (by simp [hs])
  have hf : w.frozen? ⟨b, 5, none⟩ = false := hb.free 5
  have hc2 : (w.setCell ⟨b, 5, none⟩ (.int .i64 n)).cell? ⟨b, 5, none⟩ = some (.int .i64 n) := (hb.set 5 (.int .i64 n)).cell 5 (by simp [hs])
  clear hb
  go_enter Tryd.func101, Tryd.ntmps101
  go_wp2_with fail
  refine wp_loop_rounds 2 ?_; rw [rounds_succ]
  go_wp2_with fail
  rw [rounds_succ]
  go_wp2_with fail
  go_ret
  exact ⟨rfl, HB.out, (Turn.refl _ _).setCell (Or.inl (by simp)) _⟩

set_option maxRecDepth 100000 in
set_option maxHeartbeats 4000000 in
theorem get_why (b : Nat) (n : Int) (w : World) (hc : w.cell? ⟨b, 6, none⟩ = some (.int .u8 n)) (h : 0 ≤ n ∧ n ≤ 255) :
    Calls Tryd.prog 102 #[.pointer (some ⟨b, 0, none⟩), .slice none 0 0] w fun e w' => e = .returned (.int .i64 n) ∧ w = w' := by
  go_enter Tryd.func102, Tryd.ntmps102
  go_wp2_with fail
  refine wp_loop_rounds 1 ?_; rw [rounds_succ]
  go_wp2_with fail
  go_ret
  exact ⟨rfl, rfl⟩
set_option maxRecDepth 100000 in
set_option maxHeartbeats 4000000 in
theorem put_why (b q : Nat) (n : Int) (cs : Array Value) (t : TypeId) (w : World) (hb : Blk w b cs t) (hs : 6 < cs.size) (hne : q ≠ b) (hq : w.cell? ⟨q, 0, none⟩ = some (.int .i64 n)) (h : 0 ≤ n ∧ n ≤ 255) :
    Calls Tryd.prog 102 #[.pointer (some ⟨b, 0, none⟩), .slice (some ⟨q, 0, none⟩) 1 1] w fun e w' => e = .returned (.int .i64 n) ∧ Blk w' b (cs.setIfInBounds 6 (.int .u8 n)) t ∧ Turn [b] w w' := by
  have HB := hid (hb.set 6 (.int .u8 n))
  have hc : w.cell? ⟨b, 6, none⟩ = some cs[6] := hb.cell 6 (by simp [hs])
  have hf : w.frozen? ⟨b, 6, none⟩ = false := hb.free 6
  have hc2 : (w.setCell ⟨b, 6, none⟩ (.int .u8 n)).cell? ⟨b, 6, none⟩ = some (.int .u8 n) := (hb.set 6 (.int .u8 n)).cell 6 (by simp [hs])
  clear hb
  go_enter Tryd.func102, Tryd.ntmps102
  go_wp2_with fail
  refine wp_loop_rounds 2 ?_; rw [rounds_succ]
  go_wp2_with fail
  rw [rounds_succ]
  go_wp2_with fail
  go_ret
  exact ⟨rfl, HB.out, (Turn.refl _ _).setCell (Or.inl (by simp)) _⟩

theorem blk_is {w : World} {b : Nat} {cs ds : Array Value} {t : TypeId} (h : Blk w b cs t) (e : cs = ds) : Blk w b ds t := e ▸ h
/-- The parts that each Kind has: functions, by Kinds. -/
def kindsL : List (List FuncId) := [[], [99, 100], [97, 100], [97, 101], [97], [100], [97], [100],
  [97, 101], [97], [102, 97], [97], [], []]
/-- In the world w the table of Kinds holds, for the Kind k, these functions. -/
def KindAt (w : World) (k : Nat) (fs : List FuncId) : Prop :=
  ∃ a cap, w.cell? ⟨0, k * 2 + 1, none⟩ = some (.slice a fs.length cap) ∧ (fs = [] → a = none ∧ cap = 0) ∧ (fs ≠ [] → ∃ b o, a = some ⟨b, o, none⟩ ∧ ∀ i (h : i < fs.length), w.cell? ⟨b, o + i, none⟩ = some (.func (.func fs[i]) #[] #[]))
def KindsAt (w : World) : Prop := ∀ k fs, kindsL[k]? = some fs → KindAt w k fs
theorem KindAt.below {w w' : World} (hb : Below w.heap.size w w') {k : Nat} {fs : List FuncId} (h : KindAt w k fs) : KindAt w' k fs := by
  obtain ⟨a, cap, h1, h2, h3⟩ := h
  refine ⟨a, cap, later hb h1, h2, fun hne => ?_⟩
  obtain ⟨b, o, h4, h5⟩ := h3 hne
  exact ⟨b, o, h4, fun i hi => later hb (h5 i hi)⟩
theorem KindsAt.below {w w' : World} (hb : Below w.heap.size w w') (h : KindsAt w) : KindsAt w' := fun k fs hk => (h k fs hk).below hb
end Go.Proofs.YtokkafiphchejaaDoor
