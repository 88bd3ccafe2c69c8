/-
  Walks: what the laws' own functions on events come to (ev, by, why, over, fine, bad).
-/
import Derived.Test.YtmgchpijkdammaaDoorShV
import Derived.Test.YtmgchpijkdammaaDoorShCg
namespace Go.Proofs.YtmgchpijkdammaaDoor
set_option linter.unusedVariables false
set_option linter.unusedSimpArgs false
open Go Go.RowKit
def evK (k a v : Int) : Ev := ⟨k, 0, 0, a, v, 0, 0⟩
def whyK (y a : Int) : Ev := ⟨10, 0, 0, a, 0, 0, y⟩
def byK (t : Int) (e : Ev) : Ev := { e with th := t }
set_option maxRecDepth 100000 in
set_option maxHeartbeats 4000000 in
theorem ev_any (k a v : Int) (w : World) : Calls Tryd.prog 15 #[.int .u8 k, .int .i64 a, .int .i64 v] w fun e w' => e = .returned (evA (evK k a v)) ∧ Below w.heap.size w w' := by
  go_enter Tryd.func15, Tryd.ntmps15
  go_wp2_with fail
  exact bodyPost_ret (v := evA (evK k a v)) (by simp [results, Tryd.results15, go_sem, evA, evK, whyK, trA]) rfl ⟨rfl, by repeat (first | assumption | exact ext_refl _ | refine ext_drew ?_ | refine ext_alloc ?_ _ | refine ext_trans ?_ (by assumption))⟩
set_option maxRecDepth 100000 in
set_option maxHeartbeats 4000000 in
theorem why_any (y a : Int) (w : World) : Calls Tryd.prog 28 #[.int .u8 y, .int .i64 a] w fun e w' => e = .returned (evA (whyK y a)) ∧ Below w.heap.size w w' := by
  go_enter Tryd.func28, Tryd.ntmps28
  go_wp2_with fail
  exact bodyPost_ret (v := evA (whyK y a)) (by simp [results, Tryd.results28, go_sem, evA, evK, whyK, trA]) rfl ⟨rfl, by repeat (first | assumption | exact ext_refl _ | refine ext_drew ?_ | refine ext_alloc ?_ _ | refine ext_trans ?_ (by assumption))⟩
set_option maxRecDepth 100000 in
set_option maxHeartbeats 4000000 in
theorem over_any (a : Option Addr) (n cap : Nat) (w : World) : Calls Tryd.prog 24 #[.slice a n cap] w fun e w' => e = .returned (trA 3 4 2 a n cap) ∧ Below w.heap.size w w' := by
  go_enter Tryd.func24, Tryd.ntmps24
  go_wp2_with fail
  exact bodyPost_ret (v := trA 3 4 2 a n cap) (by simp [results, Tryd.results24, go_sem, evA, evK, whyK, trA]) rfl ⟨rfl, by repeat (first | assumption | exact ext_refl _ | refine ext_drew ?_ | refine ext_alloc ?_ _ | refine ext_trans ?_ (by assumption))⟩
set_option maxRecDepth 100000 in
set_option maxHeartbeats 4000000 in
theorem many_any (a : Option Addr) (n cap : Nat) (w : World) : Calls Tryd.prog 27 #[.slice a n cap] w fun e w' => e = .returned (.slice a n cap) ∧ Below w.heap.size w w' := by
  go_enter Tryd.func27, Tryd.ntmps27
  go_wp2_with fail
  go_ret
  exact ⟨rfl, by repeat (first | assumption | exact ext_refl _ | refine ext_drew ?_ | refine ext_alloc ?_ _ | refine ext_trans ?_ (by assumption))⟩
set_option maxRecDepth 100000 in
set_option maxHeartbeats 4000000 in
theorem by_any (t : Int) (e : Ev) (w : World) : Calls Tryd.prog 23 #[.int .i64 t, evA e] w fun e' w' => e' = .returned (evA (byK t e)) ∧ Below w.heap.size w w' := by
  obtain ⟨kind, th, tx, at_, v, x, why⟩ := e
  dsimp only [evA, byK]
  go_enter Tryd.func23, Tryd.ntmps23
  go_wp2_with fail
  exact bodyPost_ret (v := .agg #[.int .u8 kind, .int .i64 t, .int .i64 tx, .int .i64 at_, .int .i64 v, .int .i64 x, .int .u8 why]) (by simp [results, Tryd.results23, go_sem, evA, evK, whyK, trA]) rfl ⟨rfl, by repeat (first | assumption | exact ext_refl _ | refine ext_drew ?_ | refine ext_alloc ?_ _ | refine ext_trans ?_ (by assumption))⟩
theorem check_all (T V S : Int) (a : Option Addr) (l : List Ev) (cap : Nat) (w : World) (hE : EvsAt w a l) (hK : KindsAt w) (hT : TabOk w) :
    Calls Tryd.prog 10 #[trA T V S a l.length cap] w fun e w' => e = .returned (.tuple #[.int .i64 (checkT T V S l).1, .int .i64 (checkT T V S l).2]) ∧ Below w.heap.size w w' :=
  check_any T V S a l cap w hE hK hT fun W c tb sb ev s h1 h2 h3 h4 h5 h6 e h7 => next_all h1 h2 h3 h4 h5 h6 e h7
set_option maxRecDepth 100000 in
set_option maxHeartbeats 4000000 in
theorem fine_core (T V S p q : Int) (a : Option Addr) (n cap : Nat) (w : World) (b : Bool) (hb : decide (q = 0 ∧ p = (n : Int)) = b) (hn : n ≤ 9223372036854775807)
    (hC : ∀ W, Below w.heap.size w W → Calls Tryd.prog 10 #[trA T V S a n cap] W fun e w' => e = .returned (.tuple #[.int .i64 p, .int .i64 q]) ∧ Below W.heap.size W w') :
    Calls Tryd.prog 13 #[trA T V S a n cap] w fun e w' => e = .returned (.bool b) ∧ Below w.heap.size w w' := by
  have HC := hid hC
  have HNN := hid hn
  dsimp only [trA] at HC ⊢
  have HB : Hid (Below w.heap.size w (w.alloc (.cells #[.int .i64 T, .int .i64 V, .int .i64 S, .slice a n cap] 24))) := hid (ext_alloc (ext_refl _) _)
  have d := Blk.new w #[.int .i64 T, .int .i64 V, .int .i64 S, .slice a n cap] 24
  clear hC hn
  by_cases h1 : q = 0
  · subst h1
    by_cases h2 : p = (n : Int)
    · subst h2
      obtain rfl : true = b := by rw [← hb]; simp
      have j : ((n : Int) == (n : Int)) = true := by simp
      go_enter Tryd.func13, Tryd.ntmps13
      go_wp2_with fail
      refine (HC.out _ HB.out).mono ?_
      rintro e' w1 ⟨rfl, hb1⟩
      have d3 := later hb1 (d.cell 3 rfl)
      have HB2 := hid (ext_trans HB.out hb1)
      go_wp2_with fail
      go_ret
      exact ⟨rfl, HB2.out⟩
    · obtain rfl : false = b := by rw [← hb]; simp [h2]
      have j : (p == (n : Int)) = false := by simp [h2]
      go_enter Tryd.func13, Tryd.ntmps13
      go_wp2_with fail
      refine (HC.out _ HB.out).mono ?_
      rintro e' w1 ⟨rfl, hb1⟩
      have d3 := later hb1 (d.cell 3 rfl)
      have HB2 := hid (ext_trans HB.out hb1)
      go_wp2_with fail
      go_ret
      exact ⟨rfl, HB2.out⟩
  · obtain rfl : false = b := by rw [← hb]; simp [h1]
    have j : (q == 0) = false := by simp [h1]
    go_enter Tryd.func13, Tryd.ntmps13
    go_wp2_with fail
    refine (HC.out _ HB.out).mono ?_
    rintro e' w1 ⟨rfl, hb1⟩
    have HB2 := hid (ext_trans HB.out hb1)
    go_wp2_with fail
    go_ret
    exact ⟨rfl, HB2.out⟩
theorem fine_any (T V S : Int) (a : Option Addr) (l : List Ev) (cap : Nat) (w : World) (hE : EvsAt w a l) (hn : l.length ≤ 9223372036854775807) (hK : KindsAt w) (hT : TabOk w) :
    Calls Tryd.prog 13 #[trA T V S a l.length cap] w fun e w' => e = .returned (.bool (fineT T V S l)) ∧ Below w.heap.size w w' :=
  fine_core T V S (checkT T V S l).1 (checkT T V S l).2 a l.length cap w _ (by
    unfold fineT
    congr 1
    rw [eq_iff_iff, Prod.ext_iff]
    exact ⟨fun h => ⟨h.2, h.1⟩, fun h => ⟨h.2, h.1⟩⟩) hn fun W hW => check_all T V S a l cap W (hE.below hW) (hK.below hW) (hT.below hW)
def badT (l : List Ev) : Bool := decide ((checkT 3 4 2 l).2 = 4 ∧ (checkT 3 4 2 l).1 = (l.length : Int) - 1)
set_option maxRecDepth 100000 in
set_option maxHeartbeats 4000000 in
theorem bad_core (p q : Int) (a : Option Addr) (n cap : Nat) (w : World) (b : Bool) (hb : decide (q = 4 ∧ p = (n : Int) - 1) = b) (hn : n ≤ 9223372036854775807) (hn1 : 1 ≤ n)
    (hC : ∀ W, Below w.heap.size w W → Calls Tryd.prog 10 #[trA 3 4 2 a n cap] W fun e w' => e = .returned (.tuple #[.int .i64 p, .int .i64 q]) ∧ Below W.heap.size W w') :
    Calls Tryd.prog 22 #[.slice a n cap] w fun e w' => e = .returned (.bool b) ∧ Below w.heap.size w w' := by
  have HC := hid hC
  have j0 : IntKind.i64.wrap ((n : Int) - 1) = (n : Int) - 1 := IntWalk.i64_in _ (by omega)
  have HO := hid (fun W => over_any a n cap W)
  dsimp only [trA] at HC HO
  clear hC hn
  by_cases h1 : q = 4
  · subst h1
    by_cases h2 : p = (n : Int) - 1
    · subst h2
      obtain rfl : true = b := by rw [← hb]; simp
      have j : ((n : Int) - 1 == (n : Int) - 1) = true := by simp
      go_enter Tryd.func22, Tryd.ntmps22
      go_wp2_with fail
      refine (HO.out _).mono ?_
      rintro e' w1 ⟨rfl, hb1⟩
      have HB1 := hid hb1
      clear hb1
      go_wp2_with fail
      refine (HC.out _ HB1.out).mono ?_
      rintro e' w2 ⟨rfl, hb2⟩
      have HB2 := hid (ext_trans HB1.out hb2)
      clear hb2
      go_wp2_with fail
      go_ret
      exact ⟨rfl, HB2.out⟩
    · obtain rfl : false = b := by rw [← hb]; simp [h2]
      have j : (p == (n : Int) - 1) = false := by simp [h2]
      go_enter Tryd.func22, Tryd.ntmps22
      go_wp2_with fail
      refine (HO.out _).mono ?_
      rintro e' w1 ⟨rfl, hb1⟩
      have HB1 := hid hb1
      clear hb1
      go_wp2_with fail
      refine (HC.out _ HB1.out).mono ?_
      rintro e' w2 ⟨rfl, hb2⟩
      have HB2 := hid (ext_trans HB1.out hb2)
      clear hb2
      go_wp2_with fail
      go_ret
      exact ⟨rfl, HB2.out⟩
  · obtain rfl : false = b := by rw [← hb]; simp [h1]
    have j : (q == 4) = false := by simp [h1]
    go_enter Tryd.func22, Tryd.ntmps22
    go_wp2_with fail
    refine (HO.out _).mono ?_
    rintro e' w1 ⟨rfl, hb1⟩
    have HB1 := hid hb1
    clear hb1
    go_wp2_with fail
    refine (HC.out _ HB1.out).mono ?_
    rintro e' w2 ⟨rfl, hb2⟩
    have HB2 := hid (ext_trans HB1.out hb2)
    clear hb2
    go_wp2_with fail
    go_ret
    exact ⟨rfl, HB2.out⟩
theorem bad_any (a : Option Addr) (l : List Ev) (cap : Nat) (w : World) (hE : EvsAt w a l) (hn : l.length ≤ 9223372036854775807) (hn1 : 1 ≤ l.length) (hK : KindsAt w) (hT : TabOk w) :
    Calls Tryd.prog 22 #[.slice a l.length cap] w fun e w' => e = .returned (.bool (badT l)) ∧ Below w.heap.size w w' :=
  bad_core (checkT 3 4 2 l).1 (checkT 3 4 2 l).2 a l.length cap w _ rfl hn hn1 fun W hW => check_all 3 4 2 a l cap W (hE.below hW) (hK.below hW) (hT.below hW)
end Go.Proofs.YtmgchpijkdammaaDoor
