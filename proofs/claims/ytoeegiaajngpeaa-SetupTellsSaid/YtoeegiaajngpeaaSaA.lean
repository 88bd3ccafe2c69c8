/-
  Same of statements, walked (printed by tools/gen_saa.py).
-/
import Derived.Test.YtoeegiaajngpeaaCpD
import Derived.Test.YtoeegiaajngpeaaCpS1
namespace Go.Proofs.Ytoeegiaajngpeaa
set_option linter.unusedVariables false
set_option linter.unusedSimpArgs false
set_option linter.unusedVariables false
open Go Go.RowKit
theorem take_eq_succ_any {α : Type} {l l' : List α} {k : Nat} (h : k < l.length) (h' : k < l'.length) (ht : l.take k = l'.take k) (he : l[k]'h = l'[k]'h') : l.take (k + 1) = l'.take (k + 1) := by
  rw [List.take_add_one, List.take_add_one, ht, List.getElem?_eq_getElem h, List.getElem?_eq_getElem h', he]
/-- A call of same answers so. -/
def SameS (s s' : St) (w' : World) : Prop := ∀ (p1 : Option Addr) (p2 : Nat) (p3 : Option Addr) (p4 : Nat) (p5 : Option Addr) (p6 : Nat) (p7 : Option Addr) (p8 : Nat) (q1 : Option Addr) (q2 : Nat) (q3 : Option Addr) (q4 : Nat) (q5 : Option Addr) (q6 : Nat) (q7 : Option Addr) (q8 : Nat), RdSt w' (s) (.int .u8 (s).kind) (.int .i64 (s).to) (.int .u8 (s).a.op) (.int .i64 (s).a.n) (.slice p1 (s).a.args.length p2) (.int .u8 (s).b.op) (.int .i64 (s).b.n) (.slice p3 (s).b.args.length p4) (.slice p5 (s).body.length p6) (.slice p7 (s).els.length p8) → RdSt w' (s') (.int .u8 (s').kind) (.int .i64 (s').to) (.int .u8 (s').a.op) (.int .i64 (s').a.n) (.slice q1 (s').a.args.length q2) (.int .u8 (s').b.op) (.int .i64 (s').b.n) (.slice q3 (s').b.args.length q4) (.slice q5 (s').body.length q6) (.slice q7 (s').els.length q8) → ∀ r, (s = s' ↔ r = true) →
  Calls Try.prog 48 #[.agg #[.int .u8 s.kind, .int .i64 s.to, .int .u8 s.a.op, .int .i64 s.a.n, .slice p1 s.a.args.length p2, .int .u8 s.b.op, .int .i64 s.b.n, .slice p3 s.b.args.length p4, .slice p5 s.body.length p6, .slice p7 s.els.length p8], .agg #[.int .u8 s'.kind, .int .i64 s'.to, .int .u8 s'.a.op, .int .i64 s'.a.n, .slice q1 s'.a.args.length q2, .int .u8 s'.b.op, .int .i64 s'.b.n, .slice q3 s'.b.args.length q4, .slice q5 s'.body.length q6, .slice q7 s'.els.length q8]] w' fun e' w'' => e' = .returned (.bool r) ∧ Below w'.heap.size w' w''
set_option maxRecDepth 100000 in
set_option maxHeartbeats 4000000 in
theorem tequal_any (l l' : List St) (w : World) (a a' : Option Addr) (cap cap' : Nat) (hlen : l.length ≤ 9223372036854775807) (hlen' : l'.length ≤ 9223372036854775807)
    (hx : l ≠ [] → ∃ b off, a = some ⟨b, off, none⟩ ∧ RdSts w b off l) (hx' : l' ≠ [] → ∃ b off, a' = some ⟨b, off, none⟩ ∧ RdSts w b off l')
    (hp : ∀ k (h : k < l.length) (h' : k < l'.length) w', Below w.heap.size w w' → SameS (l[k]'h) (l'[k]'h') w') :
    ∀ r, (l = l' ↔ r = true) → Calls Try.prog 47 #[.slice a l.length cap, .slice a' l'.length cap', .func (.func 48) #[] #[]] w
      fun e' w' => e' = .returned (.bool r) ∧ Below w.heap.size w w' := by
  intro r hr
  have HX := hid hx; clear hx
  have HX' := hid hx'; clear hx'
  have HP := hid hp; clear hp
  by_cases hll : l.length = l'.length
  · have HR := hid hr; clear hr
    rw [← hll]
    have HLL := hid hll; clear hll
    go_enter Try.func47, Try.ntmps47
    go_wp2_with fail
    go_loopw [17] (fun i wr => ∃ k : Nat, k ≤ l.length ∧ i = .int .i64 k ∧ Hid (l.take k = l'.take k) ∧ Below w.heap.size w wr) (fun i _ => l.length - (intOf i).toNat)
    case atStart => exact ⟨0, Nat.zero_le _, rfl, rfl, ext_refl _⟩
    case round =>
      obtain ⟨k, hk, rfl, HF, hb⟩ := hrel
      by_cases hlt : k < l.length
      · have hlt' : k < l'.length := by have := HLL.out; omega
        obtain ⟨b, off, rfl, hrd⟩ := HX.out (by intro h; subst h; simp at hlt)
        obtain ⟨b', off', rfl, hrd'⟩ := HX'.out (by intro h; subst h; simp at hlt')
        obtain ⟨p1, p2, p3, p4, p5, p6, p7, p8, c0, c1, c2, c3, c4, c5, c6, c7, c8, c9, hx⟩ := hrd.get10 k hlt
        obtain ⟨q1, q2, q3, q4, q5, q6, q7, q8, d0, d1, d2, d3, d4, d5, d6, d7, d8, d9, hy⟩ := hrd'.get10 k hlt'
        have c0 := later hb c0
        have c1 := later hb c1
        have c2 := later hb c2
        have c3 := later hb c3
        have c4 := later hb c4
        have c5 := later hb c5
        have c6 := later hb c6
        have c7 := later hb c7
        have c8 := later hb c8
        have c9 := later hb c9
        have d0 := later hb d0
        have d1 := later hb d1
        have d2 := later hb d2
        have d3 := later hb d3
        have d4 := later hb d4
        have d5 := later hb d5
        have d6 := later hb d6
        have d7 := later hb d7
        have d8 := later hb d8
        have d9 := later hb d9
        have lc := lt_of_cell c0
        have ld := lt_of_cell d0
        have HY := hid (hx.below hb)
        have HZ := hid (hy.below hb)
        clear hx hy hrd hrd'
        by_cases heq : l[k] = l'[k]
        · have HQ := hid (take_eq_succ_any hlt hlt' HF.out heq)
          have hcall := fun w' h1 h2 h3 => HP.out k hlt hlt' w' h1 p1 p2 p3 p4 p5 p6 p7 p8 q1 q2 q3 q4 q5 q6 q7 q8 h2 h3 true (by simp [heq])
          have HCALL := hid hcall
          clear hcall heq
          go_wp2_with fail
          refine (HCALL.out _ (by repeat (first | assumption | exact ext_refl _ | refine ext_drew ?_ | refine ext_alloc ?_ _ | refine ext_trans ?_ (by assumption))) (HY.out.below (by repeat (first | assumption | exact ext_refl _ | refine ext_drew ?_ | refine ext_alloc ?_ _ | refine ext_trans ?_ (by assumption)))) (HZ.out.below (by repeat (first | assumption | exact ext_refl _ | refine ext_drew ?_ | refine ext_alloc ?_ _ | refine ext_trans ?_ (by assumption))))).mono ?_
          rintro e w1 ⟨rfl, hb1⟩
          go_wp2_with fail
          go_roundw
          case rel => exact ⟨k + 1, hlt, by go_num, HQ, by repeat (first | assumption | exact ext_refl _ | refine ext_drew ?_ | refine ext_alloc ?_ _ | refine ext_trans ?_ (by assumption))⟩
          case measure => simp [intOf]; omega
        · have hcall := fun w' h1 h2 h3 => HP.out k hlt hlt' w' h1 p1 p2 p3 p4 p5 p6 p7 p8 q1 q2 q3 q4 q5 q6 q7 q8 h2 h3 false (by simp [heq])
          have HCALL := hid hcall
          have HN := hid (show r = false by cases r; rfl; exact absurd (by have := HR.out.2 rfl; subst this; rfl) heq)
          clear hcall heq
          go_wp2_with fail
          refine (HCALL.out _ (by repeat (first | assumption | exact ext_refl _ | refine ext_drew ?_ | refine ext_alloc ?_ _ | refine ext_trans ?_ (by assumption))) (HY.out.below (by repeat (first | assumption | exact ext_refl _ | refine ext_drew ?_ | refine ext_alloc ?_ _ | refine ext_trans ?_ (by assumption)))) (HZ.out.below (by repeat (first | assumption | exact ext_refl _ | refine ext_drew ?_ | refine ext_alloc ?_ _ | refine ext_trans ?_ (by assumption))))).mono ?_
          rintro e w1 ⟨rfl, hb1⟩
          go_wp2_with fail
          go_ret
          exact ⟨ret_bool HN.out.symm, by repeat (first | assumption | exact ext_refl _ | refine ext_drew ?_ | refine ext_alloc ?_ _ | refine ext_trans ?_ (by assumption))⟩
      · obtain rfl : k = l.length := by omega
        go_wp2_with fail
        go_ret
        exact ⟨ret_bool (HR.out.1 (by have := HF.out; rw [List.take_length, HLL.out, List.take_length] at this; exact this)).symm, hb⟩
  · have HN := hid (show r = false by cases r; rfl; exact absurd (congrArg List.length (hr.2 rfl)) hll)
    have hq : ((l.length : Int) == (l'.length : Int)) = false := by rw [beq_eq_false_iff_ne]; omega
    clear hr
    go_enter Try.func47, Try.ntmps47
    go_wp2_with fail
    go_ret
    exact ⟨ret_bool HN.out.symm, ext_refl _⟩

set_option maxRecDepth 100000 in
set_option maxHeartbeats 4000000 in
theorem ssame_any (m : Nat) (hi : ∀ (l l' : List St) (w : World) (v v' : Value), sizeT l < m → RdTx w l v → RdTx w l' v' → ∀ r, (l = l' ↔ r = true) → Calls Try.prog 33 #[v, v'] w fun e' w' => e' = .returned (.bool r) ∧ Below w.heap.size w w')
    (s s' : St) (w : World) (hs : sizeS s ≤ m) : SameS s s' w := by
  intro p1 p2 p3 p4 p5 p6 p7 p8 q1 q2 q3 q4 q5 q6 q7 q8 hr hr' r hrr
  have hsb := sizeS_body s
  have hse := sizeS_els s
  obtain ⟨-, -, ha, hb, ho, he⟩ := hr.shape
  obtain ⟨-, -, ha', hb', ho', he'⟩ := hr'.shape
  have HIO := hid (fun (W : World) (h : Below w.heap.size w W) => hi s.body s'.body W _ _ (by omega) (ho.below h) (ho'.below h))
  have HIE := hid (fun (W : World) (h : Below w.heap.size w W) => hi s.els s'.els W _ _ (by omega) (he.below h) (he'.below h))
  have HIA := hid (fun (W : World) (h : Below w.heap.size w W) => same_any (sizeE s.a) s.a s'.a W _ _ _ _ _ _ (Nat.le_refl _) (ha.below h) (ha'.below h))
  have HIB := hid (fun (W : World) (h : Below w.heap.size w W) => same_any (sizeE s.b) s.b s'.b W _ _ _ _ _ _ (Nat.le_refl _) (hb.below h) (hb'.below h))
  have heq : s = s' ↔ s.kind = s'.kind ∧ s.to = s'.to ∧ s.a = s'.a ∧ s.b = s'.b ∧ s.body = s'.body ∧ s.els = s'.els := by cases s; cases s'; simp [St.kind, St.to, St.a, St.b, St.body, St.els]
  rw [heq] at hrr
  have HRR := hid hrr
  obtain ⟨W1, hW1⟩ : ∃ W1, W1 = (w.alloc (.cells #[.int .u8 s.kind, .int .i64 s.to, .int .u8 s.a.op, .int .i64 s.a.n, .slice p1 s.a.args.length p2, .int .u8 s.b.op, .int .i64 s.b.n, .slice p3 s.b.args.length p4, .slice p5 s.body.length p6, .slice p7 s.els.length p8] 42)).alloc (.cells #[.int .u8 s'.kind, .int .i64 s'.to, .int .u8 s'.a.op, .int .i64 s'.a.n, .slice q1 s'.a.args.length q2, .int .u8 s'.b.op, .int .i64 s'.b.n, .slice q3 s'.b.args.length q4, .slice q5 s'.body.length q6, .slice q7 s'.els.length q8] 42) := ⟨_, rfl⟩
  have hbw : Below w.heap.size w W1 := by rw [hW1]; exact ext_alloc (ext_alloc (ext_refl _) _) _
  have hx0 : Blk W1 w.heap.size #[.int .u8 s.kind, .int .i64 s.to, .int .u8 s.a.op, .int .i64 s.a.n, .slice p1 s.a.args.length p2, .int .u8 s.b.op, .int .i64 s.b.n, .slice p3 s.b.args.length p4, .slice p5 s.body.length p6, .slice p7 s.els.length p8] 42 := by rw [hW1]; exact (Blk.new _ _ _).alloc _
  have hx1 : Blk W1 (w.heap.size + 1) #[.int .u8 s'.kind, .int .i64 s'.to, .int .u8 s'.a.op, .int .i64 s'.a.n, .slice q1 s'.a.args.length q2, .int .u8 s'.b.op, .int .i64 s'.b.n, .slice q3 s'.b.args.length q4, .slice q5 s'.body.length q6, .slice q7 s'.els.length q8] 42 := by rw [hW1]; exact Blk.new' _ _ _ (by simp)
  have HW1 := hid hW1
  have HB1 := hid hbw
  have HX0 := hid hx0
  have HX1 := hid hx1
  clear hsb hse ha hb ho he ha' hb' ho' he' heq hrr hW1 hbw hx0 hx1 hi hr hr'
  by_cases h0 : s.kind = s'.kind
  case neg =>
    obtain rfl : r = false := by
      cases r with
      | false => rfl
      | true => exact absurd (HRR.out.2 rfl).1 h0
    have b0 : (s.kind == s'.kind) = false := by rw [beq_eq_false_iff_ne]; exact h0
    clear h0 HIA HIB HIO HIE HRR
    go_enter Try.func48, Try.ntmps48
    go_wp2_with fail
    go_ret
    exact ⟨rfl, by rw [← HW1.out]; exact HB1.out⟩
  by_cases h1 : s.to = s'.to
  case neg =>
    obtain rfl : r = false := by
      cases r with
      | false => rfl
      | true => exact absurd (HRR.out.2 rfl).2.1 h1
    have b0 : (s.kind == s'.kind) = true := by rw [beq_iff_eq]; exact h0
    have b1 : (s.to == s'.to) = false := by rw [beq_eq_false_iff_ne]; exact h1
    clear h0 h1 HIA HIB HIO HIE HRR
    go_enter Try.func48, Try.ntmps48
    go_wp2_with fail
    go_ret
    exact ⟨rfl, by rw [← HW1.out]; exact HB1.out⟩
  by_cases h2 : s.a = s'.a
  case neg =>
    obtain rfl : r = false := by
      cases r with
      | false => rfl
      | true => exact absurd (HRR.out.2 rfl).2.2.1 h2
    have b0 : (s.kind == s'.kind) = true := by rw [beq_iff_eq]; exact h0
    have b1 : (s.to == s'.to) = true := by rw [beq_iff_eq]; exact h1
    have HC0 := hid (fun W h => HIA.out W h false (by simp [h2]))
    clear h0 h1 h2 HIA HIB HIO HIE HRR
    go_enter Try.func48, Try.ntmps48
    go_wp2_with fail
    rw [← HW1.out]
    refine (HC0.out _ HB1.out).mono ?_
    rintro e w2 ⟨rfl, hb2⟩
    have HX0 := hid (HX0.out.below hb2)
    have HX1 := hid (HX1.out.below hb2)
    have HB1 := hid (ext_trans HB1.out hb2)
    clear hb2
    have c5 := HX0.out.cell 5 (v := .int .u8 s.b.op) rfl
    have d5 := HX1.out.cell 5 (v := .int .u8 s'.b.op) rfl
    have c6 := HX0.out.cell 6 (v := .int .i64 s.b.n) rfl
    have d6 := HX1.out.cell 6 (v := .int .i64 s'.b.n) rfl
    have c7 := HX0.out.cell 7 (v := .slice p3 s.b.args.length p4) rfl
    have d7 := HX1.out.cell 7 (v := .slice q3 s'.b.args.length q4) rfl
    have c8 := HX0.out.cell 8 (v := .slice p5 s.body.length p6) rfl
    have d8 := HX1.out.cell 8 (v := .slice q5 s'.body.length q6) rfl
    have c9 := HX0.out.cell 9 (v := .slice p7 s.els.length p8) rfl
    have d9 := HX1.out.cell 9 (v := .slice q7 s'.els.length q8) rfl
    have lc := HX0.out.lt
    have ld := HX1.out.lt
    go_wp2_with fail
    go_ret
    exact ⟨rfl, HB1.out⟩
  by_cases h3 : s.b = s'.b
  case neg =>
    obtain rfl : r = false := by
      cases r with
      | false => rfl
      | true => exact absurd (HRR.out.2 rfl).2.2.2.1 h3
    have b0 : (s.kind == s'.kind) = true := by rw [beq_iff_eq]; exact h0
    have b1 : (s.to == s'.to) = true := by rw [beq_iff_eq]; exact h1
    have HC0 := hid (fun W h => HIA.out W h true (by simp [h2]))
    have HC1 := hid (fun W h => HIB.out W h false (by simp [h3]))
    clear h0 h1 h2 h3 HIA HIB HIO HIE HRR
    go_enter Try.func48, Try.ntmps48
    go_wp2_with fail
    rw [← HW1.out]
    refine (HC0.out _ HB1.out).mono ?_
    rintro e w2 ⟨rfl, hb2⟩
    have HX0 := hid (HX0.out.below hb2)
    have HX1 := hid (HX1.out.below hb2)
    have HB1 := hid (ext_trans HB1.out hb2)
    clear hb2
    have c5 := HX0.out.cell 5 (v := .int .u8 s.b.op) rfl
    have d5 := HX1.out.cell 5 (v := .int .u8 s'.b.op) rfl
    have c6 := HX0.out.cell 6 (v := .int .i64 s.b.n) rfl
    have d6 := HX1.out.cell 6 (v := .int .i64 s'.b.n) rfl
    have c7 := HX0.out.cell 7 (v := .slice p3 s.b.args.length p4) rfl
    have d7 := HX1.out.cell 7 (v := .slice q3 s'.b.args.length q4) rfl
    have c8 := HX0.out.cell 8 (v := .slice p5 s.body.length p6) rfl
    have d8 := HX1.out.cell 8 (v := .slice q5 s'.body.length q6) rfl
    have c9 := HX0.out.cell 9 (v := .slice p7 s.els.length p8) rfl
    have d9 := HX1.out.cell 9 (v := .slice q7 s'.els.length q8) rfl
    have lc := HX0.out.lt
    have ld := HX1.out.lt
    go_wp2_with fail
    refine (HC1.out _ HB1.out).mono ?_
    rintro e w3 ⟨rfl, hb3⟩
    have HX0 := hid (HX0.out.below hb3)
    have HX1 := hid (HX1.out.below hb3)
    have HB1 := hid (ext_trans HB1.out hb3)
    clear hb3
    have c8 := HX0.out.cell 8 (v := .slice p5 s.body.length p6) rfl
    have d8 := HX1.out.cell 8 (v := .slice q5 s'.body.length q6) rfl
    have c9 := HX0.out.cell 9 (v := .slice p7 s.els.length p8) rfl
    have d9 := HX1.out.cell 9 (v := .slice q7 s'.els.length q8) rfl
    have lc := HX0.out.lt
    have ld := HX1.out.lt
    go_wp2_with fail
    go_ret
    exact ⟨rfl, HB1.out⟩
  by_cases h4 : s.body = s'.body
  case neg =>
    obtain rfl : r = false := by
      cases r with
      | false => rfl
      | true => exact absurd (HRR.out.2 rfl).2.2.2.2.1 h4
    have b0 : (s.kind == s'.kind) = true := by rw [beq_iff_eq]; exact h0
    have b1 : (s.to == s'.to) = true := by rw [beq_iff_eq]; exact h1
    have HC0 := hid (fun W h => HIA.out W h true (by simp [h2]))
    have HC1 := hid (fun W h => HIB.out W h true (by simp [h3]))
    have HC2 := hid (fun W h => HIO.out W h false (by simp [h4]))
    clear h0 h1 h2 h3 h4 HIA HIB HIO HIE HRR
    go_enter Try.func48, Try.ntmps48
    go_wp2_with fail
    rw [← HW1.out]
    refine (HC0.out _ HB1.out).mono ?_
    rintro e w2 ⟨rfl, hb2⟩
    have HX0 := hid (HX0.out.below hb2)
    have HX1 := hid (HX1.out.below hb2)
    have HB1 := hid (ext_trans HB1.out hb2)
    clear hb2
    have c5 := HX0.out.cell 5 (v := .int .u8 s.b.op) rfl
    have d5 := HX1.out.cell 5 (v := .int .u8 s'.b.op) rfl
    have c6 := HX0.out.cell 6 (v := .int .i64 s.b.n) rfl
    have d6 := HX1.out.cell 6 (v := .int .i64 s'.b.n) rfl
    have c7 := HX0.out.cell 7 (v := .slice p3 s.b.args.length p4) rfl
    have d7 := HX1.out.cell 7 (v := .slice q3 s'.b.args.length q4) rfl
    have c8 := HX0.out.cell 8 (v := .slice p5 s.body.length p6) rfl
    have d8 := HX1.out.cell 8 (v := .slice q5 s'.body.length q6) rfl
    have c9 := HX0.out.cell 9 (v := .slice p7 s.els.length p8) rfl
    have d9 := HX1.out.cell 9 (v := .slice q7 s'.els.length q8) rfl
    have lc := HX0.out.lt
    have ld := HX1.out.lt
    go_wp2_with fail
    refine (HC1.out _ HB1.out).mono ?_
    rintro e w3 ⟨rfl, hb3⟩
    have HX0 := hid (HX0.out.below hb3)
    have HX1 := hid (HX1.out.below hb3)
    have HB1 := hid (ext_trans HB1.out hb3)
    clear hb3
    have c8 := HX0.out.cell 8 (v := .slice p5 s.body.length p6) rfl
    have d8 := HX1.out.cell 8 (v := .slice q5 s'.body.length q6) rfl
    have c9 := HX0.out.cell 9 (v := .slice p7 s.els.length p8) rfl
    have d9 := HX1.out.cell 9 (v := .slice q7 s'.els.length q8) rfl
    have lc := HX0.out.lt
    have ld := HX1.out.lt
    go_wp2_with fail
    refine (HC2.out _ HB1.out).mono ?_
    rintro e w4 ⟨rfl, hb4⟩
    have HX0 := hid (HX0.out.below hb4)
    have HX1 := hid (HX1.out.below hb4)
    have HB1 := hid (ext_trans HB1.out hb4)
    clear hb4
    have c8 := HX0.out.cell 8 (v := .slice p5 s.body.length p6) rfl
    have d8 := HX1.out.cell 8 (v := .slice q5 s'.body.length q6) rfl
    have c9 := HX0.out.cell 9 (v := .slice p7 s.els.length p8) rfl
    have d9 := HX1.out.cell 9 (v := .slice q7 s'.els.length q8) rfl
    have lc := HX0.out.lt
    have ld := HX1.out.lt
    go_wp2_with fail
    go_ret
    exact ⟨rfl, HB1.out⟩
  by_cases h5 : s.els = s'.els
  case neg =>
    obtain rfl : r = false := by
      cases r with
      | false => rfl
      | true => exact absurd (HRR.out.2 rfl).2.2.2.2.2 h5
    have b0 : (s.kind == s'.kind) = true := by rw [beq_iff_eq]; exact h0
    have b1 : (s.to == s'.to) = true := by rw [beq_iff_eq]; exact h1
    have HC0 := hid (fun W h => HIA.out W h true (by simp [h2]))
    have HC1 := hid (fun W h => HIB.out W h true (by simp [h3]))
    have HC2 := hid (fun W h => HIO.out W h true (by simp [h4]))
    have HC3 := hid (fun W h => HIE.out W h false (by simp [h5]))
    clear h0 h1 h2 h3 h4 h5 HIA HIB HIO HIE HRR
    go_enter Try.func48, Try.ntmps48
    go_wp2_with fail
    rw [← HW1.out]
    refine (HC0.out _ HB1.out).mono ?_
    rintro e w2 ⟨rfl, hb2⟩
    have HX0 := hid (HX0.out.below hb2)
    have HX1 := hid (HX1.out.below hb2)
    have HB1 := hid (ext_trans HB1.out hb2)
    clear hb2
    have c5 := HX0.out.cell 5 (v := .int .u8 s.b.op) rfl
    have d5 := HX1.out.cell 5 (v := .int .u8 s'.b.op) rfl
    have c6 := HX0.out.cell 6 (v := .int .i64 s.b.n) rfl
    have d6 := HX1.out.cell 6 (v := .int .i64 s'.b.n) rfl
    have c7 := HX0.out.cell 7 (v := .slice p3 s.b.args.length p4) rfl
    have d7 := HX1.out.cell 7 (v := .slice q3 s'.b.args.length q4) rfl
    have c8 := HX0.out.cell 8 (v := .slice p5 s.body.length p6) rfl
    have d8 := HX1.out.cell 8 (v := .slice q5 s'.body.length q6) rfl
    have c9 := HX0.out.cell 9 (v := .slice p7 s.els.length p8) rfl
    have d9 := HX1.out.cell 9 (v := .slice q7 s'.els.length q8) rfl
    have lc := HX0.out.lt
    have ld := HX1.out.lt
    go_wp2_with fail
    refine (HC1.out _ HB1.out).mono ?_
    rintro e w3 ⟨rfl, hb3⟩
    have HX0 := hid (HX0.out.below hb3)
    have HX1 := hid (HX1.out.below hb3)
    have HB1 := hid (ext_trans HB1.out hb3)
    clear hb3
    have c8 := HX0.out.cell 8 (v := .slice p5 s.body.length p6) rfl
    have d8 := HX1.out.cell 8 (v := .slice q5 s'.body.length q6) rfl
    have c9 := HX0.out.cell 9 (v := .slice p7 s.els.length p8) rfl
    have d9 := HX1.out.cell 9 (v := .slice q7 s'.els.length q8) rfl
    have lc := HX0.out.lt
    have ld := HX1.out.lt
    go_wp2_with fail
    refine (HC2.out _ HB1.out).mono ?_
    rintro e w4 ⟨rfl, hb4⟩
    have HX0 := hid (HX0.out.below hb4)
    have HX1 := hid (HX1.out.below hb4)
    have HB1 := hid (ext_trans HB1.out hb4)
    clear hb4
    have c8 := HX0.out.cell 8 (v := .slice p5 s.body.length p6) rfl
    have d8 := HX1.out.cell 8 (v := .slice q5 s'.body.length q6) rfl
    have c9 := HX0.out.cell 9 (v := .slice p7 s.els.length p8) rfl
    have d9 := HX1.out.cell 9 (v := .slice q7 s'.els.length q8) rfl
    have lc := HX0.out.lt
    have ld := HX1.out.lt
    go_wp2_with fail
    refine (HC3.out _ HB1.out).mono ?_
    rintro e w5 ⟨rfl, hb5⟩
    have HX0 := hid (HX0.out.below hb5)
    have HX1 := hid (HX1.out.below hb5)
    have HB1 := hid (ext_trans HB1.out hb5)
    clear hb5
    have c8 := HX0.out.cell 8 (v := .slice p5 s.body.length p6) rfl
    have d8 := HX1.out.cell 8 (v := .slice q5 s'.body.length q6) rfl
    have c9 := HX0.out.cell 9 (v := .slice p7 s.els.length p8) rfl
    have d9 := HX1.out.cell 9 (v := .slice q7 s'.els.length q8) rfl
    have lc := HX0.out.lt
    have ld := HX1.out.lt
    go_wp2_with fail
    go_ret
    exact ⟨rfl, HB1.out⟩
  obtain rfl : r = true := by
    exact HRR.out.1 ⟨h0, h1, h2, h3, h4, h5⟩
  have b0 : (s.kind == s'.kind) = true := by rw [beq_iff_eq]; exact h0
  have b1 : (s.to == s'.to) = true := by rw [beq_iff_eq]; exact h1
  have HC0 := hid (fun W h => HIA.out W h true (by simp [h2]))
  have HC1 := hid (fun W h => HIB.out W h true (by simp [h3]))
  have HC2 := hid (fun W h => HIO.out W h true (by simp [h4]))
  have HC3 := hid (fun W h => HIE.out W h true (by simp [h5]))
  clear h0 h1 h2 h3 h4 h5 HIA HIB HIO HIE HRR
  go_enter Try.func48, Try.ntmps48
  go_wp2_with fail
  rw [← HW1.out]
  refine (HC0.out _ HB1.out).mono ?_
  rintro e w2 ⟨rfl, hb2⟩
  have HX0 := hid (HX0.out.below hb2)
  have HX1 := hid (HX1.out.below hb2)
  have HB1 := hid (ext_trans HB1.out hb2)
  clear hb2
  have c5 := HX0.out.cell 5 (v := .int .u8 s.b.op) rfl
  have d5 := HX1.out.cell 5 (v := .int .u8 s'.b.op) rfl
  have c6 := HX0.out.cell 6 (v := .int .i64 s.b.n) rfl
  have d6 := HX1.out.cell 6 (v := .int .i64 s'.b.n) rfl
  have c7 := HX0.out.cell 7 (v := .slice p3 s.b.args.length p4) rfl
  have d7 := HX1.out.cell 7 (v := .slice q3 s'.b.args.length q4) rfl
  have c8 := HX0.out.cell 8 (v := .slice p5 s.body.length p6) rfl
  have d8 := HX1.out.cell 8 (v := .slice q5 s'.body.length q6) rfl
  have c9 := HX0.out.cell 9 (v := .slice p7 s.els.length p8) rfl
  have d9 := HX1.out.cell 9 (v := .slice q7 s'.els.length q8) rfl
  have lc := HX0.out.lt
  have ld := HX1.out.lt
  go_wp2_with fail
  refine (HC1.out _ HB1.out).mono ?_
  rintro e w3 ⟨rfl, hb3⟩
  have HX0 := hid (HX0.out.below hb3)
  have HX1 := hid (HX1.out.below hb3)
  have HB1 := hid (ext_trans HB1.out hb3)
  clear hb3
  have c8 := HX0.out.cell 8 (v := .slice p5 s.body.length p6) rfl
  have d8 := HX1.out.cell 8 (v := .slice q5 s'.body.length q6) rfl
  have c9 := HX0.out.cell 9 (v := .slice p7 s.els.length p8) rfl
  have d9 := HX1.out.cell 9 (v := .slice q7 s'.els.length q8) rfl
  have lc := HX0.out.lt
  have ld := HX1.out.lt
  go_wp2_with fail
  refine (HC2.out _ HB1.out).mono ?_
  rintro e w4 ⟨rfl, hb4⟩
  have HX0 := hid (HX0.out.below hb4)
  have HX1 := hid (HX1.out.below hb4)
  have HB1 := hid (ext_trans HB1.out hb4)
  clear hb4
  have c8 := HX0.out.cell 8 (v := .slice p5 s.body.length p6) rfl
  have d8 := HX1.out.cell 8 (v := .slice q5 s'.body.length q6) rfl
  have c9 := HX0.out.cell 9 (v := .slice p7 s.els.length p8) rfl
  have d9 := HX1.out.cell 9 (v := .slice q7 s'.els.length q8) rfl
  have lc := HX0.out.lt
  have ld := HX1.out.lt
  go_wp2_with fail
  refine (HC3.out _ HB1.out).mono ?_
  rintro e w5 ⟨rfl, hb5⟩
  have HX0 := hid (HX0.out.below hb5)
  have HX1 := hid (HX1.out.below hb5)
  have HB1 := hid (ext_trans HB1.out hb5)
  clear hb5
  have c8 := HX0.out.cell 8 (v := .slice p5 s.body.length p6) rfl
  have d8 := HX1.out.cell 8 (v := .slice q5 s'.body.length q6) rfl
  have c9 := HX0.out.cell 9 (v := .slice p7 s.els.length p8) rfl
  have d9 := HX1.out.cell 9 (v := .slice q7 s'.els.length q8) rfl
  have lc := HX0.out.lt
  have ld := HX1.out.lt
  go_wp2_with fail
  go_ret
  exact ⟨rfl, HB1.out⟩
set_option maxRecDepth 100000 in
set_option maxHeartbeats 4000000 in
theorem tsame_any (n : Nat) : ∀ (l l' : List St) (w : World) (v v' : Value), sizeT l < n → RdTx w l v → RdTx w l' v' → ∀ r, (l = l' ↔ r = true) → Calls Try.prog 33 #[v, v'] w fun e' w' => e' = .returned (.bool r) ∧ Below w.heap.size w w' := by
  induction n with
  | zero => intro l l' w v v' h; omega
  | succ n ih =>
  intro l l' w v v' hs hr hr' r hrr
  obtain ⟨a, cap, rfl, hlen, hx⟩ := hr
  obtain ⟨a', cap', rfl, hlen', hx'⟩ := hr'
  have HC := hid (tequal_any l l' w a a' cap cap' hlen hlen' hx hx' (fun k h h' w' _ => ssame_any n ih _ _ w' (by have := sizeT_get l k h; omega)) r hrr)
  clear hx hx' ih hrr
  go_enter Try.func33, Try.ntmps33
  go_wp2_with fail
  refine HC.out.mono ?_
  rintro e w1 ⟨rfl, hb1⟩
  go_wp2_with fail
  go_ret
  exact ⟨rfl, hb1⟩
end Go.Proofs.Ytoeegiaajngpeaa
