/-
  Same of setups, walked (printed by tools/gen_sab.py).
-/
import Derived.Test.YtoeegiaajngpeaaSaA
import Derived.Test.YtoeegiaajngpeaaCpO
namespace Go.Proofs.Ytoeegiaajngpeaa
set_option linter.unusedVariables false
set_option linter.unusedSimpArgs false
set_option linter.unusedVariables false
open Go Go.RowKit
set_option maxRecDepth 100000 in
set_option maxHeartbeats 4000000 in
theorem eqtx_any (l l' : List (List St)) (w : World) (a a' : Option Addr) (cap cap' : Nat) (hlen : l.length ≤ 9223372036854775807) (hlen' : l'.length ≤ 9223372036854775807)
    (hx : l ≠ [] → ∃ b off, a = some ⟨b, off, none⟩ ∧ RdRow RdTx w b off l) (hx' : l' ≠ [] → ∃ b off, a' = some ⟨b, off, none⟩ ∧ RdRow RdTx w b off l')
    (hp : ∀ k (h : k < l.length) (h' : k < l'.length) w' v v', Below w.heap.size w w' → RdTx w' (l[k]'h) v → RdTx w' (l'[k]'h') v' → ∀ r, (l[k]'h = l'[k]'h' ↔ r = true) →
      Calls Try.prog 33 #[v, v'] w' fun e' w'' => e' = .returned (.bool r) ∧ Below w'.heap.size w' w'') :
    ∀ r, (l = l' ↔ r = true) → Calls Try.prog 32 #[.slice a l.length cap, .slice a' l'.length cap', .func (.func 33) #[] #[]] w
      fun e' w' => e' = .returned (.bool r) ∧ Below w.heap.size w w' := by
  intro r hr
  have HX := hid hx; clear hx
  have HX' := hid hx'; clear hx'
  have HP := hid hp; clear hp
  by_cases hll : l.length = l'.length
  · have HR := hid hr; clear hr
    rw [← hll]
    have HLL := hid hll; clear hll
    go_enter Try.func32, Try.ntmps32
    go_wp2_with fail
    go_loopw [17] (fun i wr => ∃ k : Nat, k ≤ l.length ∧ i = .int .i64 k ∧ Hid (l.take k = l'.take k) ∧ Below w.heap.size w wr) (fun i _ => l.length - (intOf i).toNat)
    case atStart => exact ⟨0, Nat.zero_le _, rfl, rfl, ext_refl _⟩
    case round =>
      obtain ⟨k, hk, rfl, HF, hb⟩ := hrel
      by_cases hlt : k < l.length
      · have hlt' : k < l'.length := by have := HLL.out; omega
        obtain ⟨b, off, rfl, hrd⟩ := HX.out (by intro h; subst h; simp at hlt)
        obtain ⟨b', off', rfl, hrd'⟩ := HX'.out (by intro h; subst h; simp at hlt')
        obtain ⟨vx, c0, hx⟩ := RdRow.get l hrd k hlt
        obtain ⟨vy, d0, hy⟩ := RdRow.get l' hrd' k hlt'
        have HY := hid (hx.below hb)
        have HZ := hid (hy.below hb)
        obtain ⟨p1, p2, rfl, -, -⟩ := hx
        obtain ⟨q1, q2, rfl, -, -⟩ := hy
        have c0 := later hb c0
        have d0 := later hb d0
        have lc := lt_of_cell c0
        have ld := lt_of_cell d0
        have j1 : decide ((k : Int) < (l.length : Int)) = true := by rw [decide_eq_true_iff]; omega
        have j1n : decide (k < l.length) = true := decide_eq_true hlt
        clear hrd hrd'
        by_cases heq : l[k] = l'[k]
        · have HQ := hid (take_eq_succ_any hlt hlt' HF.out heq)
          have HCALL := hid (fun w' v v' h1 h2 h3 => HP.out k hlt hlt' w' v v' h1 h2 h3 true (by simp [heq]))
          clear heq
          go_wp2_with fail
          refine (HCALL.out _ _ _ (by repeat (first | assumption | exact ext_refl _ | refine ext_drew ?_ | refine ext_alloc ?_ _ | refine ext_trans ?_ (by assumption))) HY.out HZ.out).mono ?_
          rintro e w1 ⟨rfl, hb1⟩
          go_wp2_with fail
          go_roundw
          case rel => exact ⟨k + 1, hlt, by go_num, HQ, by repeat (first | assumption | exact ext_refl _ | refine ext_drew ?_ | refine ext_alloc ?_ _ | refine ext_trans ?_ (by assumption))⟩
          case measure => simp [intOf]; omega
        · have HCALL := hid (fun w' v v' h1 h2 h3 => HP.out k hlt hlt' w' v v' h1 h2 h3 false (by simp [heq]))
          have HN := hid (show r = false by cases r; rfl; exact absurd (by have := HR.out.2 rfl; subst this; rfl) heq)
          clear heq
          go_wp2_with fail
          refine (HCALL.out _ _ _ (by repeat (first | assumption | exact ext_refl _ | refine ext_drew ?_ | refine ext_alloc ?_ _ | refine ext_trans ?_ (by assumption))) HY.out HZ.out).mono ?_
          rintro e w1 ⟨rfl, hb1⟩
          go_wp2_with fail
          go_ret
          exact ⟨ret_bool HN.out.symm, by repeat (first | assumption | exact ext_refl _ | refine ext_drew ?_ | refine ext_alloc ?_ _ | refine ext_trans ?_ (by assumption))⟩
      · obtain rfl : k = l.length := by omega
        go_wp2_with fail
        go_ret
        exact ⟨ret_bool (HR.out.1 (by have := HF.out; rw [List.take_length, HLL.out, List.take_length] at this; exact this)).symm, hb⟩
  · have HN := hid (show r = false by cases r; rfl; exact absurd (congrArg List.length (hr.2 rfl)) hll)
    have hq : ((l.length : Int) == (l'.length : Int)) = false := by rw [beq_eq_false_iff_ne]; omega
    clear hr
    go_enter Try.func32, Try.ntmps32
    go_wp2_with fail
    go_ret
    exact ⟨ret_bool HN.out.symm, ext_refl _⟩
set_option maxRecDepth 100000 in
set_option maxHeartbeats 4000000 in
theorem eqths_any (l l' : List (List (List St))) (w : World) (a a' : Option Addr) (cap cap' : Nat) (hlen : l.length ≤ 9223372036854775807) (hlen' : l'.length ≤ 9223372036854775807)
    (hx : l ≠ [] → ∃ b off, a = some ⟨b, off, none⟩ ∧ RdRow RdTh w b off l) (hx' : l' ≠ [] → ∃ b off, a' = some ⟨b, off, none⟩ ∧ RdRow RdTh w b off l')
    (hp : ∀ k (h : k < l.length) (h' : k < l'.length) w' v v', Below w.heap.size w w' → RdTh w' (l[k]'h) v → RdTh w' (l'[k]'h') v' → ∀ r, (l[k]'h = l'[k]'h' ↔ r = true) →
      Calls Try.prog 31 #[v, v'] w' fun e' w'' => e' = .returned (.bool r) ∧ Below w'.heap.size w' w'') :
    ∀ r, (l = l' ↔ r = true) → Calls Try.prog 35 #[.slice a l.length cap, .slice a' l'.length cap', .func (.func 31) #[] #[]] w
      fun e' w' => e' = .returned (.bool r) ∧ Below w.heap.size w w' := by
  intro r hr
  have HX := hid hx; clear hx
  have HX' := hid hx'; clear hx'
  have HP := hid hp; clear hp
  by_cases hll : l.length = l'.length
  · have HR := hid hr; clear hr
    rw [← hll]
    have HLL := hid hll; clear hll
    go_enter Try.func35, Try.ntmps35
    go_wp2_with fail
    go_loopw [17] (fun i wr => ∃ k : Nat, k ≤ l.length ∧ i = .int .i64 k ∧ Hid (l.take k = l'.take k) ∧ Below w.heap.size w wr) (fun i _ => l.length - (intOf i).toNat)
    case atStart => exact ⟨0, Nat.zero_le _, rfl, rfl, ext_refl _⟩
    case round =>
      obtain ⟨k, hk, rfl, HF, hb⟩ := hrel
      by_cases hlt : k < l.length
      · have hlt' : k < l'.length := by have := HLL.out; omega
        obtain ⟨b, off, rfl, hrd⟩ := HX.out (by intro h; subst h; simp at hlt)
        obtain ⟨b', off', rfl, hrd'⟩ := HX'.out (by intro h; subst h; simp at hlt')
        obtain ⟨vx, c0, hx⟩ := RdRow.get l hrd k hlt
        obtain ⟨vy, d0, hy⟩ := RdRow.get l' hrd' k hlt'
        have HY := hid (RdTh.below hb hx)
        have HZ := hid (RdTh.below hb hy)
        obtain ⟨p1, p2, rfl, -, -⟩ := hx
        obtain ⟨q1, q2, rfl, -, -⟩ := hy
        have c0 := later hb c0
        have d0 := later hb d0
        have lc := lt_of_cell c0
        have ld := lt_of_cell d0
        have j1 : decide ((k : Int) < (l.length : Int)) = true := by rw [decide_eq_true_iff]; omega
        have j1n : decide (k < l.length) = true := decide_eq_true hlt
        clear hrd hrd'
        by_cases heq : l[k] = l'[k]
        · have HQ := hid (take_eq_succ_any hlt hlt' HF.out heq)
          have HCALL := hid (fun w' v v' h1 h2 h3 => HP.out k hlt hlt' w' v v' h1 h2 h3 true (by simp [heq]))
          clear heq
          go_wp2_with fail
          refine (HCALL.out _ _ _ (by repeat (first | assumption | exact ext_refl _ | refine ext_drew ?_ | refine ext_alloc ?_ _ | refine ext_trans ?_ (by assumption))) HY.out HZ.out).mono ?_
          rintro e w1 ⟨rfl, hb1⟩
          go_wp2_with fail
          go_roundw
          case rel => exact ⟨k + 1, hlt, by go_num, HQ, by repeat (first | assumption | exact ext_refl _ | refine ext_drew ?_ | refine ext_alloc ?_ _ | refine ext_trans ?_ (by assumption))⟩
          case measure => simp [intOf]; omega
        · have HCALL := hid (fun w' v v' h1 h2 h3 => HP.out k hlt hlt' w' v v' h1 h2 h3 false (by simp [heq]))
          have HN := hid (show r = false by cases r; rfl; exact absurd (by have := HR.out.2 rfl; subst this; rfl) heq)
          clear heq
          go_wp2_with fail
          refine (HCALL.out _ _ _ (by repeat (first | assumption | exact ext_refl _ | refine ext_drew ?_ | refine ext_alloc ?_ _ | refine ext_trans ?_ (by assumption))) HY.out HZ.out).mono ?_
          rintro e w1 ⟨rfl, hb1⟩
          go_wp2_with fail
          go_ret
          exact ⟨ret_bool HN.out.symm, by repeat (first | assumption | exact ext_refl _ | refine ext_drew ?_ | refine ext_alloc ?_ _ | refine ext_trans ?_ (by assumption))⟩
      · obtain rfl : k = l.length := by omega
        go_wp2_with fail
        go_ret
        exact ⟨ret_bool (HR.out.1 (by have := HF.out; rw [List.take_length, HLL.out, List.take_length] at this; exact this)).symm, hb⟩
  · have HN := hid (show r = false by cases r; rfl; exact absurd (congrArg List.length (hr.2 rfl)) hll)
    have hq : ((l.length : Int) == (l'.length : Int)) = false := by rw [beq_eq_false_iff_ne]; omega
    clear hr
    go_enter Try.func35, Try.ntmps35
    go_wp2_with fail
    go_ret
    exact ⟨ret_bool HN.out.symm, ext_refl _⟩
set_option maxRecDepth 100000 in
set_option maxHeartbeats 4000000 in
theorem thsame_any (l l' : List (List St)) (w : World) (v v' : Value) (hr : RdTh w l v) (hr' : RdTh w l' v') : ∀ r, (l = l' ↔ r = true) → Calls Try.prog 31 #[v, v'] w fun e' w' => e' = .returned (.bool r) ∧ Below w.heap.size w w' := by
  intro r hrr
  obtain ⟨a, cap, rfl, hlen, hx⟩ := hr
  obtain ⟨a', cap', rfl, hlen', hx'⟩ := hr'
  have HC := hid (eqtx_any l l' w a a' cap cap' hlen hlen' hx hx' (fun k h h' w' v v' _ g1 g2 => tsame_any (sizeT (l[k]'h) + 1) _ _ w' v v' (Nat.lt_succ_self _) g1 g2) r hrr)
  clear hx hx' hrr
  go_enter Try.func31, Try.ntmps31
  go_wp2_with fail
  refine HC.out.mono ?_
  rintro e w1 ⟨rfl, hb1⟩
  go_wp2_with fail
  go_ret
  exact ⟨rfl, hb1⟩
theorem thssame_any (l l' : List (List (List St))) (w : World) (a a' : Option Addr) (cap cap' : Nat) (hr : RdThs w l (.slice a l.length cap)) (hr' : RdThs w l' (.slice a' l'.length cap')) : ∀ r, (l = l' ↔ r = true) →
    Calls Try.prog 35 #[.slice a l.length cap, .slice a' l'.length cap', .func (.func 31) #[] #[]] w fun e' w' => e' = .returned (.bool r) ∧ Below w.heap.size w w' := by
  obtain ⟨_, _, h1, hlen, hx⟩ := hr
  cases h1
  obtain ⟨_, _, h1, hlen', hx'⟩ := hr'
  cases h1
  exact eqths_any l l' w a a' cap cap' hlen hlen' hx hx' (fun k h h' w' v v' _ g1 g2 => thsame_any _ _ w' v v' g1 g2)
theorem RdInts.get {w : World} {l : List Int} {a : Option Addr} {cap : Nat} (h : RdInts w l (.slice a l.length cap)) (hne : l ≠ []) : ∃ q off, a = some ⟨q, off, none⟩ ∧ ∀ k (hk : k < l.length), w.cell? ⟨q, off + k, none⟩ = some (.int .i64 (l[k]'hk)) := by
  obtain ⟨p, c, h1, -, -, h3⟩ := h
  cases h1
  exact h3 hne
set_option maxRecDepth 100000 in
set_option maxHeartbeats 4000000 in
theorem inteq_any (l l' : List Int) (w : World) (a a' : Option Addr) (cap cap' : Nat) (hr : RdInts w l (.slice a l.length cap)) (hr' : RdInts w l' (.slice a' l'.length cap')) : ∀ r, (l = l' ↔ r = true) →
    Calls Try.prog 34 #[.slice a l.length cap, .slice a' l'.length cap'] w fun e' w' => e' = .returned (.bool r) ∧ Below w.heap.size w w' := by
  intro r hr0
  have hlen : l.length ≤ 9223372036854775807 := by obtain ⟨_, _, _, h, _⟩ := hr; exact h
  have HX := hid hr
  have HX' := hid hr'
  clear hr hr'
  by_cases hll : l.length = l'.length
  · have HR := hid hr0; clear hr0
    rw [← hll]
    have HLL := hid hll; clear hll
    go_enter Try.func34, Try.ntmps34
    go_wp2_with fail
    go_loopw [13] (fun i wr => ∃ k : Nat, k ≤ l.length ∧ i = .int .i64 k ∧ Hid (l.take k = l'.take k) ∧ Below w.heap.size w wr) (fun i _ => l.length - (intOf i).toNat)
    case atStart => exact ⟨0, Nat.zero_le _, rfl, rfl, ext_refl _⟩
    case round =>
      obtain ⟨k, hk, rfl, HF, hb⟩ := hrel
      by_cases hlt : k < l.length
      · have hlt' : k < l'.length := by have := HLL.out; omega
        obtain ⟨b, off, rfl, hrd⟩ := HX.out.get (by intro h; subst h; simp at hlt)
        obtain ⟨b', off', rfl, hrd'⟩ := HX'.out.get (by intro h; subst h; simp at hlt')
        have c0 := later hb (hrd k hlt)
        have d0 := later hb (hrd' k hlt')
        have lc := lt_of_cell c0
        have ld := lt_of_cell d0
        have j1 : decide ((k : Int) < (l.length : Int)) = true := by rw [decide_eq_true_iff]; omega
        have j1n : decide (k < l.length) = true := decide_eq_true hlt
        have j2 : (0 : Int) ≤ (k : Int) := by omega
        have j2n : (k : Int) < (l.length : Int) := by omega
        clear hrd hrd'
        by_cases heq : l[k] = l'[k]
        · have HQ := hid (take_eq_succ_any hlt hlt' HF.out heq)
          have hbq : (l[k] == l'[k]) = true := by rw [beq_iff_eq]; exact heq
          go_wp2_with fail
          go_quiet (fail)
          go_wp2_with fail
          go_roundw
          case rel => exact ⟨k + 1, hlt, by go_num, HQ, ext_drewN hb _⟩
          case measure => simp [intOf]; omega
        · have HN := hid (show r = false by cases r; rfl; exact absurd (by have := HR.out.2 rfl; subst this; rfl) heq)
          have hbq : (l[k] == l'[k]) = false := by rw [beq_eq_false_iff_ne]; exact heq
          go_wp2_with fail
          go_quiet (fail)
          go_wp2_with fail
          go_ret
          exact ⟨ret_bool HN.out.symm, ext_drewN hb _⟩
      · obtain rfl : k = l.length := by omega
        go_wp2_with fail
        go_ret
        exact ⟨ret_bool (HR.out.1 (by have := HF.out; rw [List.take_length, HLL.out, List.take_length] at this; exact this)).symm, hb⟩
  · have HN := hid (show r = false by cases r; rfl; exact absurd (congrArg List.length (hr0.2 rfl)) hll)
    have hq : ((l.length : Int) == (l'.length : Int)) = false := by rw [beq_eq_false_iff_ne]; omega
    clear hr0
    go_enter Try.func34, Try.ntmps34
    go_wp2_with fail
    go_ret
    exact ⟨ret_bool HN.out.symm, ext_refl _⟩
set_option maxRecDepth 100000 in
set_option maxHeartbeats 4000000 in
theorem susame_any (st ck tr st' ck' tr' : Int) (is is' : List Int) (ths ths' : List (List (List St))) (vi vi' v v' : Value) (w : World) (hi : RdInts w is vi) (hi' : RdInts w is' vi') (hr : RdThs w ths v) (hr' : RdThs w ths' v') (r : Bool)
    (hrr : (st = st' ∧ ck = ck' ∧ tr = tr' ∧ is = is' ∧ ths = ths') ↔ r = true) :
    Calls Try.prog 12 #[.agg #[.int .i64 st, .int .i64 ck, .int .i64 tr, vi, v], .agg #[.int .i64 st', .int .i64 ck', .int .i64 tr', vi', v']] w fun e' w' => e' = .returned (.bool r) ∧ Below w.heap.size w w' := by
  have HIS := hid hi
  have HIS' := hid hi'
  have HRS := hid hr
  have HRS' := hid hr'
  obtain ⟨pi, ci, rfl, -, -⟩ := hi
  obtain ⟨pi', ci', rfl, -, -⟩ := hi'
  obtain ⟨a, cap, rfl, -, -⟩ := hr
  obtain ⟨a', cap', rfl, -, -⟩ := hr'
  have HRR := hid hrr
  obtain ⟨W1, hW1⟩ : ∃ W1, W1 = (w.alloc (.cells #[.int .i64 st, .int .i64 ck, .int .i64 tr, .slice pi is.length ci, .slice a ths.length cap] 25)).alloc (.cells #[.int .i64 st', .int .i64 ck', .int .i64 tr', .slice pi' is'.length ci', .slice a' ths'.length cap'] 25) := ⟨_, rfl⟩
  have hbw : Below w.heap.size w W1 := by rw [hW1]; exact ext_alloc (ext_alloc (ext_refl _) _) _
  have hx0 : Blk W1 w.heap.size #[.int .i64 st, .int .i64 ck, .int .i64 tr, .slice pi is.length ci, .slice a ths.length cap] 25 := by rw [hW1]; exact (Blk.new _ _ _).alloc _
  have hx1 : Blk W1 (w.heap.size + 1) #[.int .i64 st', .int .i64 ck', .int .i64 tr', .slice pi' is'.length ci', .slice a' ths'.length cap'] 25 := by rw [hW1]; exact Blk.new' _ _ _ (by simp)
  have HIA := hid (fun (W : World) (h : Below w.heap.size w W) => inteq_any is is' W pi pi' ci ci' (HIS.out.below h) (HIS'.out.below h))
  have HIB := hid (fun (W : World) (h : Below w.heap.size w W) => thssame_any ths ths' W a a' cap cap' (HRS.out.below h) (HRS'.out.below h))
  have HW1 := hid hW1
  have HB1 := hid hbw
  have HX0 := hid hx0
  have HX1 := hid hx1
  clear hrr hW1 hbw hx0 hx1
  by_cases h0 : st = st'
  case neg =>
    obtain rfl : r = false := by
      cases r with
      | false => rfl
      | true => exact absurd (HRR.out.2 rfl).1 h0
    have b0 : (st == st') = false := by rw [beq_eq_false_iff_ne]; exact h0
    clear h0 HIA HIB HRR HIS HIS' HRS HRS'
    go_enter Try.func12, Try.ntmps12
    go_wp2_with fail
    go_ret
    exact ⟨rfl, by rw [← HW1.out]; exact HB1.out⟩
  by_cases h1 : ck = ck'
  case neg =>
    obtain rfl : r = false := by
      cases r with
      | false => rfl
      | true => exact absurd (HRR.out.2 rfl).2.1 h1
    have b0 : (st == st') = true := by rw [beq_iff_eq]; exact h0
    have b1 : (ck == ck') = false := by rw [beq_eq_false_iff_ne]; exact h1
    clear h0 h1 HIA HIB HRR HIS HIS' HRS HRS'
    go_enter Try.func12, Try.ntmps12
    go_wp2_with fail
    go_ret
    exact ⟨rfl, by rw [← HW1.out]; exact HB1.out⟩
  by_cases h2 : tr = tr'
  case neg =>
    obtain rfl : r = false := by
      cases r with
      | false => rfl
      | true => exact absurd (HRR.out.2 rfl).2.2.1 h2
    have b0 : (st == st') = true := by rw [beq_iff_eq]; exact h0
    have b1 : (ck == ck') = true := by rw [beq_iff_eq]; exact h1
    have b2 : (tr == tr') = false := by rw [beq_eq_false_iff_ne]; exact h2
    clear h0 h1 h2 HIA HIB HRR HIS HIS' HRS HRS'
    go_enter Try.func12, Try.ntmps12
    go_wp2_with fail
    go_ret
    exact ⟨rfl, by rw [← HW1.out]; exact HB1.out⟩
  by_cases h3 : is = is'
  case neg =>
    obtain rfl : r = false := by
      cases r with
      | false => rfl
      | true => exact absurd (HRR.out.2 rfl).2.2.2.1 h3
    have b0 : (st == st') = true := by rw [beq_iff_eq]; exact h0
    have b1 : (ck == ck') = true := by rw [beq_iff_eq]; exact h1
    have b2 : (tr == tr') = true := by rw [beq_iff_eq]; exact h2
    have HC0 := hid (fun W h => HIA.out W h false (by simp [h3]))
    clear h0 h1 h2 h3 HIA HIB HRR HIS HIS' HRS HRS'
    go_enter Try.func12, Try.ntmps12
    go_wp2_with fail
    rw [← HW1.out]
    refine (HC0.out _ HB1.out).mono ?_
    rintro e w2 ⟨rfl, hb2⟩
    have HX0 := hid (HX0.out.below hb2)
    have HX1 := hid (HX1.out.below hb2)
    have HB1 := hid (ext_trans HB1.out hb2)
    clear hb2
    have c4 := HX0.out.cell 4 (v := .slice a ths.length cap) rfl
    have d4 := HX1.out.cell 4 (v := .slice a' ths'.length cap') rfl
    have lc := HX0.out.lt
    have ld := HX1.out.lt
    go_wp2_with fail
    go_ret
    exact ⟨rfl, HB1.out⟩
  by_cases h4 : ths = ths'
  case neg =>
    obtain rfl : r = false := by
      cases r with
      | false => rfl
      | true => exact absurd (HRR.out.2 rfl).2.2.2.2 h4
    have b0 : (st == st') = true := by rw [beq_iff_eq]; exact h0
    have b1 : (ck == ck') = true := by rw [beq_iff_eq]; exact h1
    have b2 : (tr == tr') = true := by rw [beq_iff_eq]; exact h2
    have HC0 := hid (fun W h => HIA.out W h true (by simp [h3]))
    have HC1 := hid (fun W h => HIB.out W h false (by simp [h4]))
    clear h0 h1 h2 h3 h4 HIA HIB HRR HIS HIS' HRS HRS'
    go_enter Try.func12, Try.ntmps12
    go_wp2_with fail
    rw [← HW1.out]
    refine (HC0.out _ HB1.out).mono ?_
    rintro e w2 ⟨rfl, hb2⟩
    have HX0 := hid (HX0.out.below hb2)
    have HX1 := hid (HX1.out.below hb2)
    have HB1 := hid (ext_trans HB1.out hb2)
    clear hb2
    have c4 := HX0.out.cell 4 (v := .slice a ths.length cap) rfl
    have d4 := HX1.out.cell 4 (v := .slice a' ths'.length cap') rfl
    have lc := HX0.out.lt
    have ld := HX1.out.lt
    go_wp2_with fail
    refine (HC1.out _ HB1.out).mono ?_
    rintro e w3 ⟨rfl, hb3⟩
    have HX0 := hid (HX0.out.below hb3)
    have HX1 := hid (HX1.out.below hb3)
    have HB1 := hid (ext_trans HB1.out hb3)
    clear hb3
    have c4 := HX0.out.cell 4 (v := .slice a ths.length cap) rfl
    have d4 := HX1.out.cell 4 (v := .slice a' ths'.length cap') rfl
    have lc := HX0.out.lt
    have ld := HX1.out.lt
    go_wp2_with fail
    go_ret
    exact ⟨rfl, HB1.out⟩
  obtain rfl : r = true := by
    exact HRR.out.1 ⟨h0, h1, h2, h3, h4⟩
  have b0 : (st == st') = true := by rw [beq_iff_eq]; exact h0
  have b1 : (ck == ck') = true := by rw [beq_iff_eq]; exact h1
  have b2 : (tr == tr') = true := by rw [beq_iff_eq]; exact h2
  have HC0 := hid (fun W h => HIA.out W h true (by simp [h3]))
  have HC1 := hid (fun W h => HIB.out W h true (by simp [h4]))
  clear h0 h1 h2 h3 h4 HIA HIB HRR HIS HIS' HRS HRS'
  go_enter Try.func12, Try.ntmps12
  go_wp2_with fail
  rw [← HW1.out]
  refine (HC0.out _ HB1.out).mono ?_
  rintro e w2 ⟨rfl, hb2⟩
  have HX0 := hid (HX0.out.below hb2)
  have HX1 := hid (HX1.out.below hb2)
  have HB1 := hid (ext_trans HB1.out hb2)
  clear hb2
  have c4 := HX0.out.cell 4 (v := .slice a ths.length cap) rfl
  have d4 := HX1.out.cell 4 (v := .slice a' ths'.length cap') rfl
  have lc := HX0.out.lt
  have ld := HX1.out.lt
  go_wp2_with fail
  refine (HC1.out _ HB1.out).mono ?_
  rintro e w3 ⟨rfl, hb3⟩
  have HX0 := hid (HX0.out.below hb3)
  have HX1 := hid (HX1.out.below hb3)
  have HB1 := hid (ext_trans HB1.out hb3)
  clear hb3
  have c4 := HX0.out.cell 4 (v := .slice a ths.length cap) rfl
  have d4 := HX1.out.cell 4 (v := .slice a' ths'.length cap') rfl
  have lc := HX0.out.lt
  have ld := HX1.out.lt
  go_wp2_with fail
  go_ret
  exact ⟨rfl, HB1.out⟩
set_option maxRecDepth 100000 in
set_option maxHeartbeats 4000000 in
theorem eqths_no (n n' : Nat) (w : World) (a a' : Option Addr) (cap cap' : Nat) (hn : n ≠ n') :
    Calls Try.prog 35 #[.slice a n cap, .slice a' n' cap', .func (.func 31) #[] #[]] w fun e' w' => e' = .returned (.bool false) ∧ Below w.heap.size w w' := by
  have hq : ((n : Int) == (n' : Int)) = false := by rw [beq_eq_false_iff_ne]; omega
  clear hn
  go_enter Try.func35, Try.ntmps35
  go_wp2_with fail
  go_ret
  exact ⟨rfl, ext_refl _⟩
set_option maxRecDepth 100000 in
set_option maxHeartbeats 4000000 in
theorem susame_no (st ck tr : Int) (is : List Int) (n n' : Nat) (hn : n ≠ n') (pi pi' a a' : Option Addr) (ci ci' cap cap' : Nat) (w : World) (hi : RdInts w is (.slice pi is.length ci)) (hi' : RdInts w is (.slice pi' is.length ci')) :
    Calls Try.prog 12 #[.agg #[.int .i64 st, .int .i64 ck, .int .i64 tr, .slice pi is.length ci, .slice a n cap], .agg #[.int .i64 st, .int .i64 ck, .int .i64 tr, .slice pi' is.length ci', .slice a' n' cap']] w fun e' w' => e' = .returned (.bool false) ∧ Below w.heap.size w w' := by
  obtain ⟨W1, hW1⟩ : ∃ W1, W1 = (w.alloc (.cells #[.int .i64 st, .int .i64 ck, .int .i64 tr, .slice pi is.length ci, .slice a n cap] 25)).alloc (.cells #[.int .i64 st, .int .i64 ck, .int .i64 tr, .slice pi' is.length ci', .slice a' n' cap'] 25) := ⟨_, rfl⟩
  have hbw : Below w.heap.size w W1 := by rw [hW1]; exact ext_alloc (ext_alloc (ext_refl _) _) _
  have hx0 : Blk W1 w.heap.size #[.int .i64 st, .int .i64 ck, .int .i64 tr, .slice pi is.length ci, .slice a n cap] 25 := by rw [hW1]; exact (Blk.new _ _ _).alloc _
  have hx1 : Blk W1 (w.heap.size + 1) #[.int .i64 st, .int .i64 ck, .int .i64 tr, .slice pi' is.length ci', .slice a' n' cap'] 25 := by rw [hW1]; exact Blk.new' _ _ _ (by simp)
  have HC0 := hid (inteq_any is is W1 pi pi' ci ci' (hi.below hbw) (hi'.below hbw) true (by simp))
  have HC1 := hid (fun W => eqths_no n n' W a a' cap cap' hn)
  have HW1 := hid hW1
  have HB1 := hid hbw
  have HX0 := hid hx0
  have HX1 := hid hx1
  clear hW1 hbw hx0 hx1 hn hi hi'
  go_enter Try.func12, Try.ntmps12
  go_wp2_with fail
  rw [← HW1.out]
  refine HC0.out.mono ?_
  rintro e w2 ⟨rfl, hb2⟩
  have HX0 := hid (HX0.out.below hb2)
  have HX1 := hid (HX1.out.below hb2)
  have HB1 := hid (ext_trans HB1.out hb2)
  clear hb2
  have c4 := HX0.out.cell 4 (v := .slice a n cap) rfl
  have d4 := HX1.out.cell 4 (v := .slice a' n' cap') rfl
  have lc := HX0.out.lt
  have ld := HX1.out.lt
  go_wp2_with fail
  refine (HC1.out _).mono ?_
  rintro e w3 ⟨rfl, hb3⟩
  have HB1 := hid (ext_trans HB1.out hb3)
  go_wp2_with fail
  go_ret
  exact ⟨rfl, HB1.out⟩
end Go.Proofs.Ytoeegiaajngpeaa
