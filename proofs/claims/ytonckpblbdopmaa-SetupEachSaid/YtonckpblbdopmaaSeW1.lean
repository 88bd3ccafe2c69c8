/-
  Walks: stripes and their variables, both.
-/
import Derived.Test.YtonckpblbdopmaaProg
import Derived.Test.YtonckpblbdopmaaKit
import Derived.Test.YtonckpblbdopmaaExD
import Derived.Test.YtonckpblbdopmaaSeV
import Derived.Laws.AppendOwn
import Derived.Deep.QuietTactic
import Derived.BigQuiet
namespace Go.Proofs.Ytonckpblbdopmaa
set_option linter.unusedVariables false
open Go Go.RowKit

def stripeS (v st : Int) : Int × Int := if st < 1 ∨ v < 0 then (0, 1) else (v % st, 0)

set_option maxRecDepth 100000 in
set_option maxHeartbeats 4000000 in
theorem stripe_any (v st : Int) (w : World) (hv : v ≤ 9223372036854775807) (hst : st ≤ 9223372036854775807) : Calls Try.prog 29 #[.int .i64 v, .int .i64 st] w fun e w' =>
    e = .returned (.tuple #[.int .i64 (stripeS v st).1, .int .i64 (stripeS v st).2]) ∧ w = w' := by
  by_cases h1 : st < 1
  · have HS : Hid (stripeS v st = (0, 1)) := hid (by unfold stripeS; rw [if_pos (Or.inl h1)])
    go_enter Try.func29, Try.ntmps29
    go_wp2_with fail
    go_ret2
    rw [HS.out]; exact ⟨rfl, rfl⟩
  by_cases h2 : v < 0
  · have HS : Hid (stripeS v st = (0, 1)) := hid (by unfold stripeS; rw [if_pos (Or.inr h2)])
    go_enter Try.func29, Try.ntmps29
    go_wp2_with fail
    go_ret2
    rw [HS.out]; exact ⟨rfl, rfl⟩
  have HS : Hid (stripeS v st = (v % st, 0)) := hid (by unfold stripeS; rw [if_neg (by omega)])
  have g1 : 1 ≤ st := by omega
  have g2 : 0 ≤ v := by omega
  go_enter Try.func29, Try.ntmps29
  go_wp2_with fail
  go_ret2
  rw [HS.out]; exact ⟨rfl, rfl⟩

set_option maxRecDepth 100000 in
set_option maxHeartbeats 4000000 in
theorem rstripe_any (v st : Int) (w : World) (hv : v ≤ 9223372036854775807) (hst : st ≤ 9223372036854775807) : Calls Try.prog 30 #[.int .i64 v, .int .i64 st] w fun e w' =>
    e = .returned (.tuple #[.int .i64 (stripeS v st).1, .int .i64 (stripeS v st).2]) ∧ w = w' := by
  by_cases h1 : st < 1
  · have HS : Hid (stripeS v st = (0, 1)) := hid (by unfold stripeS; rw [if_pos (Or.inl h1)])
    go_enter Try.func30, Try.ntmps30
    go_wp2_with fail
    go_ret2
    rw [HS.out]; exact ⟨rfl, rfl⟩
  by_cases h2 : v < 0
  · have HS : Hid (stripeS v st = (0, 1)) := hid (by unfold stripeS; rw [if_pos (Or.inr h2)])
    go_enter Try.func30, Try.ntmps30
    go_wp2_with fail
    go_ret2
    rw [HS.out]; exact ⟨rfl, rfl⟩
  have HS : Hid (stripeS v st = (v % st, 0)) := hid (by unfold stripeS; rw [if_neg (by omega)])
  have g1 : 1 ≤ st := by omega
  have g2 : 0 ≤ v := by omega
  go_enter Try.func30, Try.ntmps30
  go_wp2_with fail
  go_ret2
  rw [HS.out]; exact ⟨rfl, rfl⟩

/-- Numbers, as values. -/
def numV (l : List Nat) : List Value := (l.map fun x : Nat => (x : Int)).map (Value.int .i64)
theorem numV_snoc (l : List Nat) (c : Nat) : numV (l ++ [c]) = numV l ++ [.int .i64 (c : Int)] := by simp [numV]
theorem infoInt : (Try.prog.info? 3).map (fun i => (i.zero, i.size, i.bytes)) = some (some (.int .i64 0), 1, 8) := by kernel_rfl
theorem rdInts_of_owns {w : World} {base : Nat} {e : TypeId} {v : Value} {n : Nat} {l : List Int} (h : w.ownsRow base e 1 v n (l.map (Value.int .i64))) (hr : ∀ x ∈ l, -9223372036854775808 ≤ x ∧ x ≤ 9223372036854775807) (hn : n ≤ 9223372036854775807) : RdInts w l v := by
  obtain ⟨hlen, ⟨rfl, h0⟩ | ⟨g, cap, cur, rfl, hg, hh, hn', hm, hcs, htk⟩⟩ := h
  · have : l = [] := by cases l with
      | nil => rfl
      | cons x xs => simp at hlen; omega
    subst this
    exact ⟨none, 0, rfl, by simp, by simp, fun h => absurd rfl h⟩
  · have hln : l.length = n := by simpa using hlen
    refine ⟨some ⟨g, 0, none⟩, cap, by rw [hln], by omega, hr, fun _ => ⟨g, 0, rfl, fun k hk => ?_⟩⟩
    have hb : Blk w g cur e := hh
    refine hb.cell _ ?_
    have h1 : (l.map (Value.int .i64))[k]? = some (.int .i64 l[k]) := by simp [hk]
    rw [← htk, List.getElem?_take] at h1
    split at h1
    · simpa using h1
    · cases h1
theorem vars_few {s t n m : Nat} (hs : s < t) (h : ∀ i, i < m → s + i * t < n) : m ≤ n := by
  rcases Nat.eq_zero_or_pos m with rfl | hp
  · omega
  · have h1 := h (m - 1) (by omega)
    have h2 : (m - 1) * 1 ≤ (m - 1) * t := Nat.mul_le_mul_left _ (by omega)
    omega
theorem cell_one (w : World) (v : Value) (t : TypeId) : ∀ (j : Nat) (u : Value), [v][j]? = some u → (w.alloc (.cells #[v] t)).cell? ((⟨w.heap.size, 0, none⟩ : Addr).add j) = some u := by
  intro j u hu
  match j, hu with
  | 0, hu => exact (Blk.new w #[v] t).cell 0 (by simpa using hu)
theorem len_room {m : Nat} (h : m ≤ 10000) : m + 1 ≤ maxLen := by unfold maxLen; omega
theorem byte_room {m : Nat} (h : m ≤ 10000) : (m + 1) * 8 ≤ 140737488355328 := by omega
theorem row_grown {w wr w1 : World} {B n size : Nat} {e : TypeId} {v : Value} {xs : List Value} {o : Obj} (hb : Below B w wr) (h : wr.ownsRow B e size v n xs) (hg : (wr.alloc o).grownBy w1 v.ownBlock) (hB : B ≤ wr.heap.size := by omega) : Below B w w1 :=
  (hb.alloc hB o).grown hg (by simp; omega) (fun g hg' => (h.lt g hg').1)
theorem varL_range {s t n : Nat} (h : n ≤ 10000) : ∀ x ∈ (varL s t n).map fun x : Nat => (x : Int), -9223372036854775808 ≤ x ∧ x ≤ 9223372036854775807 := by
  intro x hx
  obtain ⟨y, hy, rfl⟩ := List.mem_map.1 hx
  have := (varL_mem.1 hy).1
  omega
/-- A slice's row lies at or behind a place. -/
def OwnV (B : Nat) (v : Value) : Prop := ∀ a l c, v = .slice (some a) l c → B ≤ a.block
theorem ownV_of_owns {w : World} {B n size : Nat} {e : TypeId} {v : Value} {xs : List Value} (h : w.ownsRow B e size v n xs) : OwnV B v := by
  intro a l c hv
  obtain ⟨-, ⟨rfl, h0⟩ | ⟨g, cap, cur, rfl, hg, -⟩⟩ := h
  · cases hv
  · cases hv; exact hg
/-- A list of numbers came back, and an error. -/
def VarsOf (w : World) (l : List Nat) (m : Int) (e : Ending) (w' : World) : Prop := ∃ v, e = .returned (.tuple #[v, .int .i64 m]) ∧ RdInts w' (l.map fun x : Nat => (x : Int)) v ∧ OwnV w.heap.size v ∧ Below w.heap.size w w'

set_option maxRecDepth 100000 in
set_option maxHeartbeats 4000000 in
theorem vars_ok (s t n : Nat) (w : World) (hs : s < t) (hn : 1 ≤ n) (hn2 : n ≤ 10000) (ht : t ≤ 9223372036854775807) :
    Calls Try.prog 31 #[.int .i64 s, .int .i64 t, .int .i64 n] w (VarsOf w (varL s t n) 0) := by
  obtain ⟨i0, hi, hz0, hz1, hz2⟩ := info_parts infoInt
  have g1 : (s : Int) < (t : Int) := by omega
  have g2 : (1 : Int) ≤ (n : Int) := by omega
  have g3 : (1 : Int) ≤ (t : Int) := by omega
  have g4 : (0 : Int) ≤ (s : Int) := by omega
  have g5 : (n : Int) ≤ 10000 := by omega
  have g6 : (t : Int) ≤ 9223372036854775807 := by omega
  have HH := hid (And.intro hs (And.intro hn hn2))
  have d1 : decide ((t : Int) < 1) = false := by rw [decide_eq_false_iff_not]; omega
  have d2 : decide ((n : Int) < 1) = false := by rw [decide_eq_false_iff_not]; omega
  have d3 : decide ((s : Int) < 0) = false := by rw [decide_eq_false_iff_not]; omega
  have d4 : decide (t ≤ s) = false := by rw [decide_eq_false_iff_not]; omega
  clear hs hn hn2 ht
  go_enter Try.func31, Try.ntmps31
  go_wp2_with fail
  have hst : (s : Int) ≤ 9223372036854775807 := by omega
  go_loopw [8, 9] (fun o i wr => ∃ (m c : Nat), i = .int .i64 c ∧ Hid (c = s + m * t ∧ ∀ i, i < m → s + i * t < n) ∧ (c : Int) ≤ 9223372036854775807 ∧ Hid (wr.ownsRow w.heap.size 3 1 o m (numV (stepL s t m))) ∧ Below w.heap.size w wr) (fun _ i _ => n - (intOf i).toNat)
  case atStart => exact ⟨0, s, rfl, hid ⟨by omega, by omega⟩, hst, hid (World.ownsRow_nil _ _ _ _), ext_refl _⟩
  case round =>
    obtain ⟨m, c, rfl, HC, hc1, HO, hb⟩ := hrel
    clear hst
    have hwz := hb.size
    by_cases hlt : c < n
    · have hm : m ≤ n := vars_few HH.out.1 HC.out.2
      have hm2 : m ≤ 10000 := by omega
      have hc0 : (0 : Int) ≤ (c : Int) := by omega
      have hcn : (c : Int) < (n : Int) := by omega
      have HM := hid hm2
      clear hm hm2
      by_cases hbr : n < c + t
      · have hbr2 : (n : Int) - (t : Int) < (c : Int) := by omega
        clear hlt
        go_wp2_with (at_builtin; refine wpList_append_own _ rfl _ _ 42 rfl w.heap.size 3 i0 (.int .i64 0) 1 8 Try.underlying42 hi hz0 hz1 hz2 rfl (by decide) _ _ _ rfl (HO.out.alloc _) ⟨wr.heap.size, 0, none⟩ 1 1 [.int .i64 (c : Int)] rfl rfl (cell_one _ _ _) (by simp [Value.oneCell']) (len_room HM.out) (byte_room HM.out) (by simp; omega) ?_; intro v' w1 hown' hgrow _; have hb1 := row_grown hb HO.out hgrow; have HOWN : Hid (w1.ownsRow w.heap.size 3 1 v' (m + 1) (numV (stepL s t (m + 1)))) := hid (by rw [stepL_succ, ← HC.out.1, numV_snoc]; exact hown'); clear hown' hgrow)
        go_ret2
        have hfin : stepL s t (m + 1) = varL s t n := stepL_is HH.out.1 (by have := HC.out.1; rw [Nat.add_mul]; omega) (fun i hi => by
          by_cases h : i < m
          · exact HC.out.2 i h
          · obtain rfl : i = m := by omega
            have := HC.out.1; omega)
        rw [hfin] at HOWN
        exact ⟨v', rfl, rdInts_of_owns HOWN.out (varL_range (by omega)) (by have := HM.out; omega), ownV_of_owns HOWN.out, hb1⟩
      · have hbr2 : ¬ ((n : Int) - (t : Int) < (c : Int)) := by omega
        have hcc : (c : Int) + (t : Int) ≤ (n : Int) := by omega
        have HLT := hid hlt
        clear hlt
        go_wp2_with (at_builtin; refine wpList_append_own _ rfl _ _ 42 rfl w.heap.size 3 i0 (.int .i64 0) 1 8 Try.underlying42 hi hz0 hz1 hz2 rfl (by decide) _ _ _ rfl (HO.out.alloc _) ⟨wr.heap.size, 0, none⟩ 1 1 [.int .i64 (c : Int)] rfl rfl (cell_one _ _ _) (by simp [Value.oneCell']) (len_room HM.out) (byte_room HM.out) (by simp; omega) ?_; intro v' w1 hown' hgrow _; have hb1 := row_grown hb HO.out hgrow; have HOWN : Hid (w1.ownsRow w.heap.size 3 1 v' (m + 1) (numV (stepL s t (m + 1)))) := hid (by rw [stepL_succ, ← HC.out.1, numV_snoc]; exact hown'); clear hown' hgrow)
        go_roundw
        case rel => exact ⟨m + 1, c + t, by go_num, hid ⟨by rw [HC.out.1, Nat.add_mul]; omega, fun i hi => by
          by_cases h : i < m
          · exact HC.out.2 i h
          · obtain rfl : i = m := by omega
            have := HC.out.1; have := HLT.out; omega⟩, by omega, HOWN, hb1⟩
        case measure => simp [intOf]; omega
    · have hcn : ¬ ((c : Int) < (n : Int)) := by omega
      have hfin : stepL s t m = varL s t n := stepL_is HH.out.1 (by have := HC.out.1; omega) HC.out.2
      rw [hfin] at HO
      have hm : m ≤ n := vars_few HH.out.1 HC.out.2
      have HM := hid hm
      clear hm hfin hlt
      go_wp2_with fail
      go_ret2
      exact ⟨_, rfl, rdInts_of_owns HO.out (varL_range (by have := HH.out; omega)) (by have := HM.out; omega), ownV_of_owns HO.out, hb⟩
set_option maxRecDepth 100000 in
set_option maxHeartbeats 4000000 in
theorem rvars_ok (s t n : Nat) (w : World) (hs : s < t) (hn : 1 ≤ n) (hn2 : n ≤ 10000) (ht : t ≤ 9223372036854775807) :
    Calls Try.prog 32 #[.int .i64 s, .int .i64 t, .int .i64 n] w (VarsOf w (varL s t n) 0) := by
  obtain ⟨i0, hi, hz0, hz1, hz2⟩ := info_parts infoInt
  have g1 : (s : Int) < (t : Int) := by omega
  have g2 : (1 : Int) ≤ (n : Int) := by omega
  have g3 : (1 : Int) ≤ (t : Int) := by omega
  have g4 : (0 : Int) ≤ (s : Int) := by omega
  have g5 : (n : Int) ≤ 10000 := by omega
  have g6 : (t : Int) ≤ 9223372036854775807 := by omega
  have HH := hid (And.intro hs (And.intro hn hn2))
  have d1 : decide ((t : Int) < 1) = false := by rw [decide_eq_false_iff_not]; omega
  have d2 : decide ((n : Int) < 1) = false := by rw [decide_eq_false_iff_not]; omega
  have d3 : decide ((s : Int) < 0) = false := by rw [decide_eq_false_iff_not]; omega
  have d4 : decide (t ≤ s) = false := by rw [decide_eq_false_iff_not]; omega
  clear hs hn hn2 ht
  go_enter Try.func32, Try.ntmps32
  go_wp2_with fail
  go_loopw [8, 9] (fun o i wr => ∃ c : Nat, c ≤ n ∧ i = .int .i64 c ∧ Hid (wr.ownsRow w.heap.size 3 1 o (varL s t c).length (numV (varL s t c))) ∧ Below w.heap.size w wr) (fun _ i _ => n - (intOf i).toNat)
  case atStart => exact ⟨0, by omega, rfl, hid (World.ownsRow_nil _ _ _ _), ext_refl _⟩
  case round =>
    obtain ⟨c, hc, rfl, HO, hb⟩ := hrel
    have hwz := hb.size
    by_cases hlt : c < n
    · have hm2 : (varL s t c).length ≤ 10000 := by have := varL_len s t c; have := HH.out; omega
      have hc0 : (0 : Int) ≤ (c : Int) := by omega
      have HM := hid hm2
      have HVS := hid (varL_succ s t c)
      clear hm2
      by_cases he : c % t = s
      · have ht : (((c : Int) % (t : Int)) == (s : Int)) = true := by rw [beq_iff_eq]; omega
        have HE := hid he
        clear he
        go_wp2_with (at_builtin; refine wpList_append_own _ rfl _ _ 42 rfl w.heap.size 3 i0 (.int .i64 0) 1 8 Try.underlying42 hi hz0 hz1 hz2 rfl (by decide) _ _ _ rfl (HO.out.alloc _) ⟨wr.heap.size, 0, none⟩ 1 1 [.int .i64 (c : Int)] rfl rfl (cell_one _ _ _) (by simp [Value.oneCell']) (len_room HM.out) (byte_room HM.out) (by simp; omega) ?_; intro v' w1 hown' hgrow _; have hb1 := row_grown hb HO.out hgrow; have HOWN : Hid (w1.ownsRow w.heap.size 3 1 v' ((varL s t c).length + 1) (numV (varL s t c ++ [c]))) := hid (by rw [numV_snoc]; exact hown'); clear hown' hgrow)
        go_roundw
        case rel =>
          refine ⟨c + 1, by omega, by go_num, hid ?_, hb1⟩
          have h := HVS.out
          rw [if_pos HE.out] at h
          rw [h, List.length_append]
          exact HOWN.out
        case measure => simp [intOf]; omega
      · have ht : (((c : Int) % (t : Int)) == (s : Int)) = false := by rw [beq_eq_false_iff_ne]; omega
        have HE := hid he
        clear he
        go_wp2_with fail
        go_roundw
        case rel =>
          refine ⟨c + 1, by omega, by go_num, hid ?_, hb⟩
          have h := HVS.out
          rw [if_neg HE.out] at h
          rw [h]
          exact HO.out
        case measure => simp [intOf]; omega
    · obtain rfl : c = n := by omega
      go_wp2_with fail
      go_ret2
      exact ⟨_, rfl, rdInts_of_owns HO.out (varL_range (by have := HH.out; omega)) (by have := varL_len s t c; have := HH.out; omega), ownV_of_owns HO.out, hb⟩
end Go.Proofs.Ytonckpblbdopmaa
