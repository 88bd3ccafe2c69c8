/-
  Joined texts: SeV SeW1s SeW2s.
-/
import Derived.Test.YtoeegiaajngpeaaProg
import Derived.Test.YtoeegiaajngpeaaSuG5
import Derived.Test.YtoeegiaajngpeaaExD
import Derived.Laws.AppendOwn
import Derived.Deep.QuietTactic
import Derived.BigQuiet
/-
  The variables of a stripe, plainly. Nothing of the program.
-/
namespace Go.Proofs.Ytoeegiaajngpeaa
set_option linter.unusedVariables false
/-- The numbers below n that leave s by t. -/
def varL (s t n : Nat) : List Nat := (List.range n).filter fun v => v % t == s
def stepL (s t m : Nat) : List Nat := (List.range m).map fun i => s + i * t
theorem varL_step {s t : Nat} (hs : s < t) (n : Nat) : ∃ m, n ≤ s + m * t ∧ (∀ i, i < m → s + i * t < n) ∧ varL s t n = stepL s t m := by
  induction n with
  | zero => exact ⟨0, by omega, by omega, rfl⟩
  | succ n ih =>
    obtain ⟨m, h1, h2, h3⟩ := ih
    by_cases he : s + m * t = n
    · refine ⟨m + 1, by rw [Nat.add_mul]; omega, fun i hi => ?_, ?_⟩
      · by_cases h : i < m
        · have := h2 i h; omega
        · obtain rfl : i = m := by omega
          omega
      · have hm : (n % t == s) = true := by
          rw [beq_iff_eq, ← he, Nat.add_mul_mod_self_right, Nat.mod_eq_of_lt hs]
        unfold varL stepL at h3 ⊢
        rw [List.range_succ, List.filter_append, h3, List.range_succ, List.map_append]
        simp [hm, he]
    · refine ⟨m, by omega, fun i hi => by have := h2 i hi; omega, ?_⟩
      have hm : (n % t == s) = false := by
        rw [beq_eq_false_iff_ne]
        intro hne
        have hq : n = s + n / t * t := by
          have := Nat.div_add_mod n t
          rw [Nat.mul_comm] at this
          omega
        rcases Nat.lt_or_ge (n / t) m with h | h
        · have := h2 (n / t) h; omega
        · have : m * t ≤ n / t * t := Nat.mul_le_mul_right t h
          omega
      unfold varL at h3 ⊢
      rw [List.range_succ, List.filter_append, h3]
      simp [hm]
theorem stepL_is {s t n m : Nat} (hs : s < t) (h1 : n ≤ s + m * t) (h2 : ∀ i, i < m → s + i * t < n) : stepL s t m = varL s t n := by
  obtain ⟨m', h3, h4, h5⟩ := varL_step hs n
  rw [h5]
  have : m = m' := by
    rcases Nat.lt_trichotomy m m' with h | h | h
    · have := h4 m h; omega
    · exact h
    · have := h2 m' h; omega
  rw [this]
theorem stepL_succ (s t m : Nat) : stepL s t (m + 1) = stepL s t m ++ [s + m * t] := by
  unfold stepL; rw [List.range_succ, List.map_append]; rfl
theorem varL_succ (s t n : Nat) : varL s t (n + 1) = if n % t = s then varL s t n ++ [n] else varL s t n := by
  unfold varL
  rw [List.range_succ, List.filter_append]
  split
  · rename_i h; simp [h]
  · rename_i h; simp [h]
theorem varL_mem {s t n v : Nat} : v ∈ varL s t n ↔ v < n ∧ v % t = s := by
  unfold varL; simp
theorem varL_len (s t n : Nat) : (varL s t n).length ≤ n := by
  have := List.length_filter_le (fun v => v % t == s) (List.range n)
  simpa [varL] using this
end Go.Proofs.Ytoeegiaajngpeaa
/-
  Walks: stripes and their variables, both.
-/
namespace Go.Proofs.Ytoeegiaajngpeaa
set_option linter.unusedVariables false
open Go Go.RowKit

def stripeS (v st : Int) : Int × Int := if st < 1 ∨ v < 0 then (0, 1) else (v % st, 0)

set_option maxRecDepth 100000 in
set_option maxHeartbeats 4000000 in
theorem stripe_any (v st : Int) (w : World) (hv : v ≤ 9223372036854775807) (hst : st ≤ 9223372036854775807) : Calls Try.prog 17 #[.int .i64 v, .int .i64 st] w fun e w' =>
    e = .returned (.tuple #[.int .i64 (stripeS v st).1, .int .i64 (stripeS v st).2]) ∧ w = w' := by
  by_cases h1 : st < 1
  · have HS : Hid (stripeS v st = (0, 1)) := hid (by unfold stripeS; rw [if_pos (Or.inl h1)])
    go_enter Try.func17, Try.ntmps17
    go_wp2_with fail
    go_ret2
    rw [HS.out]; exact ⟨rfl, rfl⟩
  by_cases h2 : v < 0
  · have HS : Hid (stripeS v st = (0, 1)) := hid (by unfold stripeS; rw [if_pos (Or.inr h2)])
    go_enter Try.func17, Try.ntmps17
    go_wp2_with fail
    go_ret2
    rw [HS.out]; exact ⟨rfl, rfl⟩
  have HS : Hid (stripeS v st = (v % st, 0)) := hid (by unfold stripeS; rw [if_neg (by omega)])
  have g1 : 1 ≤ st := by omega
  have g2 : 0 ≤ v := by omega
  go_enter Try.func17, Try.ntmps17
  go_wp2_with fail
  go_ret2
  rw [HS.out]; exact ⟨rfl, rfl⟩

/-- Numbers, as values. -/
def numV (l : List Nat) : List Value := (l.map fun x : Nat => (x : Int)).map (Value.int .i64)
theorem numV_snoc (l : List Nat) (c : Nat) : numV (l ++ [c]) = numV l ++ [.int .i64 (c : Int)] := by simp [numV]
theorem infoInt : (Try.prog.info? 3).map (fun i => (i.zero, i.size, i.bytes)) = some (some (.int .i64 0), 1, 8) := by kernel_rfl
theorem rdInts_of_owns {w : World} {base : Nat} {e : TypeId} {v : Value} {n : Nat} {l : List Int} (h : w.ownsRow base e 1 v n (l.map (Value.int .i64))) (hr : ∀ x ∈ l, -9223372036854775808 ≤ x ∧ x ≤ 9223372036854775807) (hn : n ≤ 9223372036854775807) : RdInts w l v := by
  obtain ⟨hlen, ⟨rfl, h0⟩ | ⟨g, cap, cur, rfl, hg, hh, hn', hm, hcs, htk⟩⟩ := h
  · have : l = [] := by cases l with
      | nil => rfl
      | cons x xs => simp at hlen; omega
    subst this
    exact ⟨none, 0, rfl, by simp, by simp, fun h => absurd rfl h⟩
  · have hln : l.length = n := by simpa using hlen
    refine ⟨some ⟨g, 0, none⟩, cap, by rw [hln], by omega, hr, fun _ => ⟨g, 0, rfl, fun k hk => ?_⟩⟩
    have hb : Blk w g cur e := hh
    refine hb.cell _ ?_
    have h1 : (l.map (Value.int .i64))[k]? = some (.int .i64 l[k]) := by simp [hk]
    rw [← htk, List.getElem?_take] at h1
    split at h1
    · simpa using h1
    · cases h1
theorem vars_few {s t n m : Nat} (hs : s < t) (h : ∀ i, i < m → s + i * t < n) : m ≤ n := by
  rcases Nat.eq_zero_or_pos m with rfl | hp
  · omega
  · have h1 := h (m - 1) (by omega)
    have h2 : (m - 1) * 1 ≤ (m - 1) * t := Nat.mul_le_mul_left _ (by omega)
    omega
theorem cell_one (w : World) (v : Value) (t : TypeId) : ∀ (j : Nat) (u : Value), [v][j]? = some u → (w.alloc (.cells #[v] t)).cell? ((⟨w.heap.size, 0, none⟩ : Addr).add j) = some u := by
  intro j u hu
  match j, hu with
  | 0, hu => exact (Blk.new w #[v] t).cell 0 (by simpa using hu)
theorem len_room {m : Nat} (h : m ≤ 10000) : m + 1 ≤ maxLen := by unfold maxLen; omega
theorem byte_room {m : Nat} (h : m ≤ 10000) : (m + 1) * 8 ≤ 140737488355328 := by omega
theorem row_grown {w wr w1 : World} {B n size : Nat} {e : TypeId} {v : Value} {xs : List Value} {o : Obj} (hb : Below B w wr) (h : wr.ownsRow B e size v n xs) (hg : (wr.alloc o).grownBy w1 v.ownBlock) (hB : B ≤ wr.heap.size := by omega) : Below B w w1 :=
  (hb.alloc hB o).grown hg (by simp; omega) (fun g hg' => (h.lt g hg').1)
theorem varL_range {s t n : Nat} (h : n ≤ 10000) : ∀ x ∈ (varL s t n).map fun x : Nat => (x : Int), -9223372036854775808 ≤ x ∧ x ≤ 9223372036854775807 := by
  intro x hx
  obtain ⟨y, hy, rfl⟩ := List.mem_map.1 hx
  have := (varL_mem.1 hy).1
  omega
/-- A slice's row lies at or behind a place. -/
def OwnV (B : Nat) (v : Value) : Prop := ∀ a l c, v = .slice (some a) l c → B ≤ a.block
theorem ownV_of_owns {w : World} {B n size : Nat} {e : TypeId} {v : Value} {xs : List Value} (h : w.ownsRow B e size v n xs) : OwnV B v := by
  intro a l c hv
  obtain ⟨-, ⟨rfl, h0⟩ | ⟨g, cap, cur, rfl, hg, -⟩⟩ := h
  · cases hv
  · cases hv; exact hg
/-- A list of numbers came back, and an error. -/
def VarsOf (w : World) (l : List Nat) (m : Int) (e : Ending) (w' : World) : Prop := ∃ v, e = .returned (.tuple #[v, .int .i64 m]) ∧ RdInts w' (l.map fun x : Nat => (x : Int)) v ∧ OwnV w.heap.size v ∧ Below w.heap.size w w'

set_option maxRecDepth 100000 in
set_option maxHeartbeats 4000000 in
theorem vars_ok (s t n : Nat) (w : World) (hs : s < t) (hn : 1 ≤ n) (hn2 : n ≤ 10000) (ht : t ≤ 9223372036854775807) :
    Calls Try.prog 18 #[.int .i64 s, .int .i64 t, .int .i64 n] w (VarsOf w (varL s t n) 0) := by
  obtain ⟨i0, hi, hz0, hz1, hz2⟩ := info_parts infoInt
  have g1 : (s : Int) < (t : Int) := by omega
  have g2 : (1 : Int) ≤ (n : Int) := by omega
  have g3 : (1 : Int) ≤ (t : Int) := by omega
  have g4 : (0 : Int) ≤ (s : Int) := by omega
  have g5 : (n : Int) ≤ 10000 := by omega
  have g6 : (t : Int) ≤ 9223372036854775807 := by omega
  have HH := hid (And.intro hs (And.intro hn hn2))
  have d1 : decide ((t : Int) < 1) = false := by rw [decide_eq_false_iff_not]; omega
  have d2 : decide ((n : Int) < 1) = false := by rw [decide_eq_false_iff_not]; omega
  have d3 : decide ((s : Int) < 0) = false := by rw [decide_eq_false_iff_not]; omega
  have d4 : decide (t ≤ s) = false := by rw [decide_eq_false_iff_not]; omega
  clear hs hn hn2 ht
  go_enter Try.func18, Try.ntmps18
  go_wp2_with fail
  have hst : (s : Int) ≤ 9223372036854775807 := by omega
  go_loopw [8, 9] (fun o i wr => ∃ (m c : Nat), i = .int .i64 c ∧ Hid (c = s + m * t ∧ ∀ i, i < m → s + i * t < n) ∧ (c : Int) ≤ 9223372036854775807 ∧ Hid (wr.ownsRow w.heap.size 3 1 o m (numV (stepL s t m))) ∧ Below w.heap.size w wr) (fun _ i _ => n - (intOf i).toNat)
  case atStart => exact ⟨0, s, rfl, hid ⟨by omega, by omega⟩, hst, hid (World.ownsRow_nil _ _ _ _), ext_refl _⟩
  case round =>
    obtain ⟨m, c, rfl, HC, hc1, HO, hb⟩ := hrel
    clear hst
    have hwz := hb.size
    by_cases hlt : c < n
    · have hm : m ≤ n := vars_few HH.out.1 HC.out.2
      have hm2 : m ≤ 10000 := by omega
      have hc0 : (0 : Int) ≤ (c : Int) := by omega
      have hcn : (c : Int) < (n : Int) := by omega
      have HM := hid hm2
      clear hm hm2
      by_cases hbr : n < c + t
      · have hbr2 : (n : Int) - (t : Int) < (c : Int) := by omega
        clear hlt
        go_wp2_with (at_builtin; refine wpList_append_own _ rfl _ _ 47 rfl w.heap.size 3 i0 (.int .i64 0) 1 8 Try.underlying47 hi hz0 hz1 hz2 rfl (by decide) _ _ _ rfl (HO.out.alloc _) ⟨wr.heap.size, 0, none⟩ 1 1 [.int .i64 (c : Int)] rfl rfl (cell_one _ _ _) (by simp [Value.oneCell']) (len_room HM.out) (byte_room HM.out) (by simp; omega) ?_; intro v' w1 hown' hgrow _; have hb1 := row_grown hb HO.out hgrow; have HOWN : Hid (w1.ownsRow w.heap.size 3 1 v' (m + 1) (numV (stepL s t (m + 1)))) := hid (by rw [stepL_succ, ← HC.out.1, numV_snoc]; exact hown'); clear hown' hgrow)
        go_ret2
        have hfin : stepL s t (m + 1) = varL s t n := stepL_is HH.out.1 (by have := HC.out.1; rw [Nat.add_mul]; omega) (fun i hi => by
          by_cases h : i < m
          · exact HC.out.2 i h
          · obtain rfl : i = m := by omega
            have := HC.out.1; omega)
        rw [hfin] at HOWN
        exact ⟨v', rfl, rdInts_of_owns HOWN.out (varL_range (by omega)) (by have := HM.out; omega), ownV_of_owns HOWN.out, hb1⟩
      · have hbr2 : ¬ ((n : Int) - (t : Int) < (c : Int)) := by omega
        have hcc : (c : Int) + (t : Int) ≤ (n : Int) := by omega
        have HLT := hid hlt
        clear hlt
        go_wp2_with (at_builtin; refine wpList_append_own _ rfl _ _ 47 rfl w.heap.size 3 i0 (.int .i64 0) 1 8 Try.underlying47 hi hz0 hz1 hz2 rfl (by decide) _ _ _ rfl (HO.out.alloc _) ⟨wr.heap.size, 0, none⟩ 1 1 [.int .i64 (c : Int)] rfl rfl (cell_one _ _ _) (by simp [Value.oneCell']) (len_room HM.out) (byte_room HM.out) (by simp; omega) ?_; intro v' w1 hown' hgrow _; have hb1 := row_grown hb HO.out hgrow; have HOWN : Hid (w1.ownsRow w.heap.size 3 1 v' (m + 1) (numV (stepL s t (m + 1)))) := hid (by rw [stepL_succ, ← HC.out.1, numV_snoc]; exact hown'); clear hown' hgrow)
        go_roundw
        case rel => exact ⟨m + 1, c + t, by go_num, hid ⟨by rw [HC.out.1, Nat.add_mul]; omega, fun i hi => by
          by_cases h : i < m
          · exact HC.out.2 i h
          · obtain rfl : i = m := by omega
            have := HC.out.1; have := HLT.out; omega⟩, by omega, HOWN, hb1⟩
        case measure => simp [intOf]; omega
    · have hcn : ¬ ((c : Int) < (n : Int)) := by omega
      have hfin : stepL s t m = varL s t n := stepL_is HH.out.1 (by have := HC.out.1; omega) HC.out.2
      rw [hfin] at HO
      have hm : m ≤ n := vars_few HH.out.1 HC.out.2
      have HM := hid hm
      clear hm hfin hlt
      go_wp2_with fail
      go_ret2
      exact ⟨_, rfl, rdInts_of_owns HO.out (varL_range (by have := HH.out; omega)) (by have := HM.out; omega), ownV_of_owns HO.out, hb⟩
end Go.Proofs.Ytoeegiaajngpeaa
/-
  Walks: numbers compared; the numbers of a setup without threads; the examples (awake).
-/
namespace Go.Proofs.Ytoeegiaajngpeaa
set_option linter.unusedVariables false
open Go Go.RowKit

set_option maxRecDepth 100000 in
set_option maxHeartbeats 4000000 in
theorem numbers_any (l m : List Int) (w : World) (v u : Value) (hl : RdInts w l v) (hm : RdInts w m u) : Calls Try.prog 19 #[v, u] w fun e w' => e = .returned (.bool (decide (l = m))) ∧ Below w.heap.size w w' := by
  obtain ⟨a, cap, rfl, hl1, -, hl2⟩ := hl
  obtain ⟨a', cap', rfl, hm1, -, hm2⟩ := hm
  have HL := hid hl2
  have HM := hid hm2
  clear hl2 hm2
  by_cases hlen : l.length = m.length
  · have ht : ((l.length : Int) != (m.length : Int)) = false := by rw [bne_eq_false_iff_eq]; omega
    have HLEN := hid hlen
    clear hlen
    go_enter Try.func19, Try.ntmps19
    go_wp2_with fail
    go_loopw [5] (fun i wr => ∃ k : Nat, k ≤ l.length ∧ i = .int .i64 k ∧ Hid (l.take k = m.take k) ∧ Below w.heap.size w wr) (fun i _ => l.length - (intOf i).toNat)
    case atStart => exact ⟨0, by omega, rfl, hid (by simp), ext_refl _⟩
    case round =>
      obtain ⟨k, hk, rfl, HT, hb⟩ := hrel
      by_cases hlt : k < l.length
      · have hlt2 : k < m.length := by have := HLEN.out; omega
        obtain ⟨b, off, rfl, hc⟩ := HL.out (by intro h; subst h; simp at hlt)
        obtain ⟨b', off', rfl, hc'⟩ := HM.out (by intro h; subst h; simp at hlt2)
        have c0 := later hb (hc k hlt)
        have c1 := later hb (hc' k hlt2)
        have hk1 : (k : Int) < (l.length : Int) := by omega
        have hk2 : (k : Int) < (m.length : Int) := by omega
        clear hc hc'
        by_cases he : l[k] = m[k]
        · have ht2 : (l[k] != m[k]) = false := by rw [bne_eq_false_iff_eq]; exact he
          have HE := hid he
          clear he
          have hs : l.take (k + 1) = m.take (k + 1) := by
            rw [List.take_succ_eq_append_getElem hlt, List.take_succ_eq_append_getElem hlt2, HT.out, HE.out]
          have HS := hid hs
          clear hs
          go_wp2_with fail
          go_quiet (fail)
          go_wp2_with fail
          go_roundw
          case rel => exact ⟨k + 1, by omega, by go_num, HS, ext_drewN hb _⟩
          case measure => simp [intOf]; omega
        · have ht2 : (l[k] != m[k]) = true := by rw [bne_iff_ne]; exact he
          have hne : l ≠ m := fun h => he (by subst h; rfl)
          have HNE := hid hne
          clear he hne
          go_wp2_with fail
          go_quiet (fail)
          go_wp2_with fail
          go_ret
          exact ⟨ret_bool (by simp [HNE.out]), ext_drewN hb _⟩
      · obtain rfl : k = l.length := by omega
        have heq : l = m := by
          have h := HT.out
          rwa [List.take_length, HLEN.out, List.take_length] at h
        have HEQ := hid heq
        clear heq
        go_wp2_with fail
        go_ret
        exact ⟨ret_bool (by simp [HEQ.out]), hb⟩
  · have ht : ((l.length : Int) != (m.length : Int)) = true := by rw [bne_iff_ne]; omega
    have hne : l ≠ m := fun h => hlen (by rw [h])
    have HNE := hid hne
    clear hlen hne
    go_enter Try.func19, Try.ntmps19
    go_wp2_with fail
    go_ret
    exact ⟨ret_bool (by simp [HNE.out]), ext_refl _⟩

set_option maxRecDepth 100000 in
set_option maxHeartbeats 4000000 in
theorem within_yes (n lo hi : Int) (w : World) (h1 : lo ≤ n) (h2 : n ≤ hi) : Calls Try.prog 20 #[.int .i64 n, .int .i64 lo, .int .i64 hi] w fun e w' => e = .returned (.bool true) ∧ w = w' := by
  go_enter Try.func20, Try.ntmps20
  go_wp2_with fail
  go_ret
  exact ⟨rfl, rfl⟩
set_option maxRecDepth 100000 in
set_option maxHeartbeats 4000000 in
theorem within_no (n lo hi : Int) (w : World) (h : n < lo ∨ (lo ≤ n ∧ hi < n)) : Calls Try.prog 20 #[.int .i64 n, .int .i64 lo, .int .i64 hi] w fun e w' => e = .returned (.bool false) ∧ w = w' := by
  rcases h with h | ⟨h1, h2⟩
  · have d : decide (lo ≤ n) = false := by rw [decide_eq_false_iff_not]; omega
    go_enter Try.func20, Try.ntmps20
    go_wp2_with fail
    go_ret
    exact ⟨rfl, rfl⟩
  · have d : decide (n ≤ hi) = false := by rw [decide_eq_false_iff_not]; omega
    go_enter Try.func20, Try.ntmps20
    go_wp2_with fail
    go_ret
    exact ⟨rfl, rfl⟩

set_option maxRecDepth 100000 in
set_option maxHeartbeats 4000000 in
theorem check_one (g : Nat) (w : World) : Calls Try.prog 8 #[.agg #[.int .i64 1, .int .i64 0, .int .i64 1, .slice (some ⟨g, 0, none⟩) 1 1, .slice none 0 0]] w fun e w' => e = .returned (.int .i64 0) ∧ Below w.heap.size w w' := by
  go_enter Try.func8, Try.ntmps8
  go_wp2_with fail
  refine (within_yes 1 1 32 _ (by decide) (by decide)).mono ?_
  rintro e' w1 ⟨rfl, rfl⟩
  go_wp2_with fail
  refine (within_yes 1 1 1 _ (by decide) (by decide)).mono ?_
  rintro e' w1 ⟨rfl, rfl⟩
  go_wp2_with fail
  refine (within_yes 0 0 1099511627776 _ (by decide) (by decide)).mono ?_
  rintro e' w1 ⟨rfl, rfl⟩
  go_wp2_with fail
  refine (within_yes 1 1 1000 _ (by decide) (by decide)).mono ?_
  rintro e' w1 ⟨rfl, rfl⟩
  go_wp2_with fail
  go_loopw [47] (fun i wr => i = .int .i64 0 ∧ Below w.heap.size w wr) (fun _ _ => 0)
  case atStart => exact ⟨rfl, ext_alloc (ext_refl _) _⟩
  case round =>
    obtain ⟨rfl, hb⟩ := hrel
    go_wp2_with fail
    go_ret
    exact ⟨rfl, hb⟩
set_option maxRecDepth 100000 in
set_option maxHeartbeats 4000000 in
theorem check_two (g : Nat) (w : World) : Calls Try.prog 8 #[.agg #[.int .i64 2, .int .i64 0, .int .i64 1, .slice (some ⟨g, 0, none⟩) 1 1, .slice none 0 0]] w fun e w' => e = .returned (.int .i64 4) ∧ Below w.heap.size w w' := by
  go_enter Try.func8, Try.ntmps8
  go_wp2_with fail
  refine (within_yes 1 1 32 _ (by decide) (by decide)).mono ?_
  rintro e' w1 ⟨rfl, rfl⟩
  go_wp2_with fail
  refine (within_no 2 1 1 _ (by omega)).mono ?_
  rintro e' w1 ⟨rfl, rfl⟩
  go_wp2_with fail
  go_ret
  exact ⟨rfl, ext_alloc (ext_refl _) _⟩

set_option maxRecDepth 100000 in
set_option maxHeartbeats 4000000 in
theorem sawake_any (w : World) : Calls Try.prog 7 #[] w fun e w' => e = .returned (.bool true) ∧ Below w.heap.size w w' := by
  go_enter Try.func7, Try.ntmps7
  go_wp2_with fail
  refine (stripe_any 5 3 _ (by decide) (by decide)).mono ?_
  rw [show stripeS 5 3 = (2, 0) by decide +kernel]
  rintro e' w1 ⟨rfl, rfl⟩
  go_wp2_with fail
  refine (vars_ok 2 3 9 _ (by decide) (by decide) (by decide) (by decide)).mono ?_
  rw [show varL 2 3 9 = [2, 5, 8] by decide +kernel]
  rintro e' w1 ⟨v, rfl, hv, -, hb1⟩
  have HV := hid hv
  clear hv
  go_wp2_with fail
  refine (check_one _ _).mono ?_
  rintro e' w2 ⟨rfl, hb2⟩
  go_wp2_with fail
  refine (check_two _ _).mono ?_
  rintro e' w3 ⟨rfl, hb3⟩
  go_wp2_with fail
  refine (numbers_any [2, 5, 8] [2, 5, 8] _ _ _ ?_ ?_).mono ?_
  · exact (HV.out.below (by repeat (first | assumption | exact ext_refl _ | refine ext_drew ?_ | refine ext_alloc ?_ _ | refine ext_trans ?_ (by assumption))))
  · have hN := Blk.new w3 #[.int .i64 2, .int .i64 5, .int .i64 8] 3
    refine ⟨_, _, rfl, by simp, by simp, fun _ => ⟨w3.heap.size, 0, rfl, fun k hk => ?_⟩⟩
    match k, hk with
    | 0, _ => exact hN.cell 0 rfl
    | 1, _ => exact hN.cell 1 rfl
    | 2, _ => exact hN.cell 2 rfl
  rintro e' w4 ⟨rfl, hb4⟩
  go_wp2_with fail
  go_ret
  exact ⟨rfl, by repeat (first | assumption | exact ext_refl _ | refine ext_drew ?_ | refine ext_alloc ?_ _ | refine ext_trans ?_ (by assumption))⟩
end Go.Proofs.Ytoeegiaajngpeaa
