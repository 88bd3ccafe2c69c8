/-
  Walks: setup.Check.
-/
import Derived.Test.YtaklfjjkeebheaaSuD
import Derived.Test.YtaklfjjkeebheaaCoMy
namespace Go.Proofs.Ytaklfjjkeebheaa
set_option linter.unusedVariables false
set_option linter.unusedSimpArgs false
set_option linter.unusedVariables false
open Go Go.RowKit
set_option maxRecDepth 100000 in
set_option maxHeartbeats 4000000 in
theorem within_any (n lo hi : Int) (b : Bool) (h : (decide (lo ≤ n) && decide (n ≤ hi)) = b) (w : World) :
    Calls Try.prog 35 #[.int .i64 n, .int .i64 lo, .int .i64 hi] w fun e' w' => e' = .returned (.bool b) ∧ w' = w := by
  by_cases h1 : lo ≤ n
  · have k1 : decide (lo ≤ n) = true := decide_eq_true h1
    by_cases h2 : n ≤ hi
    · have k2 : decide (n ≤ hi) = true := decide_eq_true h2
      obtain rfl : b = true := by rw [← h, k1, k2]; rfl
      clear h
      go_enter Try.func35, Try.ntmps35
      go_wp2_with fail
      go_ret
      exact ⟨rfl, rfl⟩
    · have k2 : decide (n ≤ hi) = false := decide_eq_false h2
      obtain rfl : b = false := by rw [← h, k1, k2]; rfl
      clear h
      go_enter Try.func35, Try.ntmps35
      go_wp2_with fail
      go_ret
      exact ⟨rfl, rfl⟩
  · have k1 : decide (lo ≤ n) = false := decide_eq_false h1
    obtain rfl : b = false := by rw [← h, k1]; rfl
    clear h
    go_enter Try.func35, Try.ntmps35
    go_wp2_with fail
    go_ret
    exact ⟨rfl, rfl⟩
def GoodTh (th : List (List St)) : Prop := th.length ≤ 6 ∧ ∀ j (h : j < th.length), mayT th[j] (j : Int) = true
structure GoodN (st ck tr : Int) (ni nt : Nat) : Prop where
  n0 : 1 ≤ ni ∧ ni ≤ 32
  s0 : 1 ≤ st ∧ st ≤ (ni : Int)
  c0 : 0 ≤ ck ∧ ck ≤ 1099511627776
  t0 : 1 ≤ tr ∧ tr ≤ 1000
  l0 : nt ≤ 6
def GoodS (st ck tr : Int) (ni : Nat) (ths : List (List (List St))) : Prop := GoodN st ck tr ni ths.length ∧ ∀ th ∈ ths, GoodTh th
def CheckP (st ck tr : Int) (ni : Nat) (ths : List (List (List St))) (w : World) (e' : Ending) (w' : World) : Prop :=
  ((e' = .returned (.int .i64 0) ∧ GoodS st ck tr ni ths) ∨ (e' = .returned (.int .i64 4) ∧ ¬ GoodS st ck tr ni ths)) ∧ Below w.heap.size w w'
theorem depthS_depthT_le : (∀ s : St, depthS s ≤ sizeS s) ∧ (∀ (l : List St) (n : Nat), depthT n l ≤ n + sizeT l) := by
  have : ∀ k : Nat, (∀ s : St, sizeS s ≤ k → depthS s ≤ sizeS s) ∧ (∀ (l : List St) (n : Nat), sizeT l ≤ k → depthT n l ≤ n + sizeT l) := by
    intro k
    induction k with
    | zero =>
      refine ⟨fun s h => ?_, fun l n h => ?_⟩
      · cases s; simp [sizeS] at h
      · cases l with
        | nil => simp [depthT]
        | cons x xs => cases x; simp [sizeT, sizeS] at h
    | succ k ih =>
      have h1 : ∀ s : St, sizeS s ≤ k + 1 → depthS s ≤ sizeS s := by
        intro s hs
        cases s with | mk kd t a b body els =>
        simp only [sizeS] at hs
        have i1 := ih.2 body 0 (by omega)
        have i2 := ih.2 els 0 (by omega)
        simp only [depthS, sizeS]
        split <;> split <;> omega
      refine ⟨h1, ?_⟩
      intro l
      induction l with
      | nil => intro n _; simp [depthT, sizeT]
      | cons x xs ihl =>
        intro n h
        simp only [sizeT] at h
        have i1 := h1 x (by omega)
        have i2 := ihl (max n (depthS x)) (by omega)
        simp only [depthT, sizeT]
        omega
  exact ⟨fun s => (this (sizeS s)).1 s (Nat.le_refl _), fun l n => (this (sizeT l)).2 l n (Nat.le_refl _)⟩
theorem tmay_any (tx : List St) (v : Value) (n : Int) (w : World) (hr : RdTx w tx v) (hok : okTx tx) :
    Calls Try.prog 36 #[v, .int .i64 n] w fun e' w' => e' = .returned (.bool (mayT tx n)) ∧ Below w.heap.size w w' :=
  smay_any tx v n w hr hok.2 (by have := hok.1; omega) (by have := depthS_depthT_le.2 tx 0; have := hok.1; omega)
theorem tcost_any (tx : List St) (v : Value) (w : World) (hr : RdTx w tx v) :
    Calls Try.prog 53 #[v] w fun e' w' => e' = .returned (.int .i64 (costT 0 tx : Nat)) ∧ Below w.heap.size w w' := cost_any (sizeT tx + 1) tx w v (Nat.lt_succ_self _) hr
end Go.Proofs.Ytaklfjjkeebheaa
