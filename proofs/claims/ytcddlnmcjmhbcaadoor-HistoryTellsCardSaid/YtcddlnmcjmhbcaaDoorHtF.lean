/-
  Joined texts: HtW1 HiB HtW2 HtW3 HtW4 HtJ.
-/
import Derived.Test.YtcddlnmcjmhbcaaDoorHtA
import Derived.Test.YtcddlnmcjmhbcaaDoorRgB
import Derived.Test.YtcddlnmcjmhbcaaDoorRgC
import Derived.Deep.CutBlock
import Derived.Test.YtcddlnmcjmhbcaaDoorRgG
import Derived.Test.YtcddlnmcjmhbcaaDoorRgH
import Derived.Test.YtcddlnmcjmhbcaaDoorRgI
/-
  Walks: rows of pairs, rows of numbers are the same.
-/
namespace Go.Proofs.YtcddlnmcjmhbcaaDoor
set_option linter.unusedVariables false
set_option linter.unusedSimpArgs false
set_option linter.unusedVariables false
open Go Go.RowKit
theorem run_eql_pair (a b : Int × Int) (w : World) : (Op.equal 61 (.agg #[.int .i64 a.1, .int .i64 a.2]) (.agg #[.int .i64 b.1, .int .i64 b.2])).run Tryd.prog w = .ok (decide (a = b)) w := by
  unfold Op.equal Op.maxDepth
  have hu := Tryd.underlying61
  rw [run_equalIn_struct w 9999 61 _ _ (by unfold Program.fieldsOf; rw [hu]) (by kernel_rfl)]
  unfold Program.fieldsOf
  rw [hu]
  obtain ⟨a0, a1⟩ := a
  obtain ⟨b0, b1⟩ := b
  clear hu
  have hd : decide ((a0, a1) = (b0, b1)) = decide (a0 = b0 ∧ a1 = b1) := by simp only [Prod.mk.injEq]
  rw [hd]
  simp only [Op.eqFields]
  by_cases h0 : a0 = b0
  case neg => go_simp
  by_cases h1 : a1 = b1
  case neg => go_simp
  go_simp
set_option maxRecDepth 100000 in
set_option maxHeartbeats 4000000 in
theorem pairs_any (l l' : List (Int × Int)) (w : World) (v v' : Value) (h : RdP w l v) (h' : RdP w l' v') : ∀ r, (l = l' ↔ r = true) → Calls Tryd.prog 27 #[v, v'] w fun e' w' => e' = .returned (.bool r) ∧ Below w.heap.size w w' := by
  intro r hr
  obtain ⟨a, cap, rfl, hlen, hx⟩ := h
  obtain ⟨a', cap', rfl, hlen', hx'⟩ := h'
  have HX := hid hx; clear hx
  have HX' := hid hx'; clear hx'
  by_cases hll : l.length = l'.length
  · have HR := hid hr; clear hr
    rw [← hll]
    have HLL := hid hll; clear hll
    go_enter Tryd.func27, Tryd.ntmps27
    go_wp2_with fail
    go_loopw [5] (fun i wr => ∃ k : Nat, k ≤ l.length ∧ i = .int .i64 k ∧ Hid (l.take k = l'.take k) ∧ Below w.heap.size w wr) (fun i _ => l.length - (intOf i).toNat)
    case atStart => exact ⟨0, Nat.zero_le _, rfl, rfl, ext_refl _⟩
    case round =>
      obtain ⟨k, hk, rfl, HF, hb⟩ := hrel
      by_cases hlt : k < l.length
      · have hlt' : k < l'.length := by have := HLL.out; omega
        obtain ⟨b, off, rfl, hrd⟩ := HX.out (by intro h; subst h; simp at hlt)
        obtain ⟨b', off', rfl, hrd'⟩ := HX'.out (by intro h; subst h; simp at hlt')
        have c0 := (hrd k hlt).1
        have d0 := (hrd' k hlt').1
        have c1 := (hrd k hlt).2
        have d1 := (hrd' k hlt').2
        have hrec : (∃ hq : Bool, (l[k] = l'[k] ↔ hq = true)) := bool_of _
        obtain ⟨q, hq⟩ := hrec
        have HQ := hid hq
        have HT := hid (fun he : l[k] = l'[k] => takeEq hlt hlt' HF.out he)
        have HN := hid (fun he : ¬ l[k] = l'[k] => (show r = false by cases r; rfl; exact absurd (by have := HR.out.2 rfl; subst this; rfl) he))
        generalize l[k] = x at c0 c1 HQ HT HN hq
        generalize l'[k] = x' at d0 d1 HQ HT HN hq
        clear hrd hrd' hq
        have HB := hid hb
        have c0 := later HB.out c0
        have c1 := later HB.out c1
        have d0 := later HB.out d0
        have d1 := later HB.out d1
        have hk0 : (0 : Int) ≤ (k : Int) := by omega
        have hk1 : (k : Int) < (l.length : Int) := by omega
        have hk2 : decide ((k : Int) < (l.length : Int)) = true := decide_eq_true hk1
        have hk3 : decide (k < l.length) = true := decide_eq_true hlt
        have hk4 : IntKind.i64.wrap ((k : Int) + 1) = (k : Int) + 1 := IntWalk.i64_in _ (by omega)
        have HLT := hid hlt
        clear hb hlt' hlt hk
        obtain ⟨qe, hqe⟩ : ∃ qe : Bool, decide (x = x') = qe := ⟨_, rfl⟩
        have hqp := fun w' => run_eql_pair x x' w'
        unfold Op.equal Op.maxDepth at hqp
        rw [hqe] at hqp
        have HQE := hid hqe
        clear hqe
        go_wp2_with fail
        go_quiet (fail)
        have HB2 := hid (ext_trans HB.out (ext_drewN (ext_refl wr) nq))
        clear c0 c1 d0 d1 hqp
        by_cases he : x = x'
        · have HTX := hid (HT.out he)
          obtain rfl : qe = true := by rw [← HQE.out]; exact decide_eq_true he
          clear he
          go_wp2_with fail
          go_roundw
          case rel => exact ⟨k + 1, HLT.out, by go_num, HTX, HB2.out⟩
          case measure => simp [intOf]; have := HLT.out; omega
        · have HNX := hid (HN.out he)
          obtain rfl : qe = false := by rw [← HQE.out]; exact decide_eq_false he
          clear he
          go_wp2_with fail
          go_ret
          exact ⟨ret_bool HNX.out.symm, HB2.out⟩
      · obtain rfl : k = l.length := by omega
        have hk2 : decide ((l.length : Int) < (l.length : Int)) = false := decide_eq_false (by omega)
        go_wp2_with fail
        go_ret
        exact ⟨ret_bool (HR.out.1 (by have := HF.out; rw [List.take_length, HLL.out, List.take_length] at this; exact this)).symm, hb⟩
  · have HN := hid (show r = false by cases r; rfl; exact absurd (congrArg List.length (hr.2 rfl)) hll)
    have hq : ((l.length : Int) == (l'.length : Int)) = false := by rw [beq_eq_false_iff_ne]; omega
    clear hr
    go_enter Tryd.func27, Tryd.ntmps27
    go_wp2_with fail
    go_ret
    exact ⟨ret_bool HN.out.symm, ext_refl _⟩
set_option maxRecDepth 100000 in
set_option maxHeartbeats 4000000 in
theorem peq_any (l l' : List (Int × Int)) (w : World) (v v' : Value) (h : RdP w l v) (h' : RdP w l' v') : ∀ r, (l = l' ↔ r = true) → Calls Tryd.prog 65 #[v, v'] w fun e' w' => e' = .returned (.bool r) ∧ Below w.heap.size w w' := by
  intro r hr
  obtain ⟨a, cap, rfl, hlen, hx⟩ := h
  obtain ⟨a', cap', rfl, hlen', hx'⟩ := h'
  have HX := hid hx; clear hx
  have HX' := hid hx'; clear hx'
  by_cases hll : l.length = l'.length
  · have HR := hid hr; clear hr
    rw [← hll]
    have HLL := hid hll; clear hll
    go_enter Tryd.func65, Tryd.ntmps65
    go_wp2_with fail
    go_loopw [13] (fun i wr => ∃ k : Nat, k ≤ l.length ∧ i = .int .i64 k ∧ Hid (l.take k = l'.take k) ∧ Below w.heap.size w wr) (fun i _ => l.length - (intOf i).toNat)
    case atStart => exact ⟨0, Nat.zero_le _, rfl, rfl, ext_refl _⟩
    case round =>
      obtain ⟨k, hk, rfl, HF, hb⟩ := hrel
      by_cases hlt : k < l.length
      · have hlt' : k < l'.length := by have := HLL.out; omega
        obtain ⟨b, off, rfl, hrd⟩ := HX.out (by intro h; subst h; simp at hlt)
        obtain ⟨b', off', rfl, hrd'⟩ := HX'.out (by intro h; subst h; simp at hlt')
        have c0 := (hrd k hlt).1
        have d0 := (hrd' k hlt').1
        have c1 := (hrd k hlt).2
        have d1 := (hrd' k hlt').2
        have hrec : (∃ hq : Bool, (l[k] = l'[k] ↔ hq = true)) := bool_of _
        obtain ⟨q, hq⟩ := hrec
        have HQ := hid hq
        have HT := hid (fun he : l[k] = l'[k] => takeEq hlt hlt' HF.out he)
        have HN := hid (fun he : ¬ l[k] = l'[k] => (show r = false by cases r; rfl; exact absurd (by have := HR.out.2 rfl; subst this; rfl) he))
        generalize l[k] = x at c0 c1 HQ HT HN hq
        generalize l'[k] = x' at d0 d1 HQ HT HN hq
        clear hrd hrd' hq
        have HB := hid hb
        have c0 := later HB.out c0
        have c1 := later HB.out c1
        have d0 := later HB.out d0
        have d1 := later HB.out d1
        have hk0 : (0 : Int) ≤ (k : Int) := by omega
        have hk1 : (k : Int) < (l.length : Int) := by omega
        have hk2 : decide ((k : Int) < (l.length : Int)) = true := decide_eq_true hk1
        have hk3 : decide (k < l.length) = true := decide_eq_true hlt
        have hk4 : IntKind.i64.wrap ((k : Int) + 1) = (k : Int) + 1 := IntWalk.i64_in _ (by omega)
        have HLT := hid hlt
        clear hb hlt' hlt hk
        obtain ⟨qe, hqe⟩ : ∃ qe : Bool, decide (x = x') = qe := ⟨_, rfl⟩
        have hqp := fun w' => run_eql_pair x x' w'
        unfold Op.equal Op.maxDepth at hqp
        rw [hqe] at hqp
        have HQE := hid hqe
        clear hqe
        go_wp2_with fail
        go_quiet (fail)
        have HB2 := hid (ext_trans HB.out (ext_drewN (ext_refl wr) nq))
        clear c0 c1 d0 d1 hqp
        by_cases he : x = x'
        · have HTX := hid (HT.out he)
          obtain rfl : qe = true := by rw [← HQE.out]; exact decide_eq_true he
          clear he
          go_wp2_with fail
          go_roundw
          case rel => exact ⟨k + 1, HLT.out, by go_num, HTX, HB2.out⟩
          case measure => simp [intOf]; have := HLT.out; omega
        · have HNX := hid (HN.out he)
          obtain rfl : qe = false := by rw [← HQE.out]; exact decide_eq_false he
          clear he
          go_wp2_with fail
          go_ret
          exact ⟨ret_bool HNX.out.symm, HB2.out⟩
      · obtain rfl : k = l.length := by omega
        have hk2 : decide ((l.length : Int) < (l.length : Int)) = false := decide_eq_false (by omega)
        go_wp2_with fail
        go_ret
        exact ⟨ret_bool (HR.out.1 (by have := HF.out; rw [List.take_length, HLL.out, List.take_length] at this; exact this)).symm, hb⟩
  · have HN := hid (show r = false by cases r; rfl; exact absurd (congrArg List.length (hr.2 rfl)) hll)
    have hq : ((l.length : Int) == (l'.length : Int)) = false := by rw [beq_eq_false_iff_ne]; omega
    clear hr
    go_enter Tryd.func65, Tryd.ntmps65
    go_wp2_with fail
    go_ret
    exact ⟨ret_bool HN.out.symm, ext_refl _⟩
set_option maxRecDepth 100000 in
set_option maxHeartbeats 4000000 in
theorem nums_any (l l' : List Int) (w : World) (v v' : Value) (h : RdN w l v) (h' : RdN w l' v') : ∀ r, (l = l' ↔ r = true) → Calls Tryd.prog 13 #[v, v'] w fun e' w' => e' = .returned (.bool r) ∧ Below w.heap.size w w' := by
  intro r hr
  obtain ⟨a, cap, rfl, hlen, hx⟩ := h
  obtain ⟨a', cap', rfl, hlen', hx'⟩ := h'
  have HX := hid hx; clear hx
  have HX' := hid hx'; clear hx'
  by_cases hll : l.length = l'.length
  · have HR := hid hr; clear hr
    rw [← hll]
    have HLL := hid hll; clear hll
    go_enter Tryd.func13, Tryd.ntmps13
    go_wp2_with fail
    go_loopw [5] (fun i wr => ∃ k : Nat, k ≤ l.length ∧ i = .int .i64 k ∧ Hid (l.take k = l'.take k) ∧ Below w.heap.size w wr) (fun i _ => l.length - (intOf i).toNat)
    case atStart => exact ⟨0, Nat.zero_le _, rfl, rfl, ext_refl _⟩
    case round =>
      obtain ⟨k, hk, rfl, HF, hb⟩ := hrel
      by_cases hlt : k < l.length
      · have hlt' : k < l'.length := by have := HLL.out; omega
        obtain ⟨b, off, rfl, hrd⟩ := HX.out (by intro h; subst h; simp at hlt)
        obtain ⟨b', off', rfl, hrd'⟩ := HX'.out (by intro h; subst h; simp at hlt')
        have c0 := (hrd k hlt)
        have d0 := (hrd' k hlt')
        have hrec : (∃ hq : Bool, (l[k] = l'[k] ↔ hq = true)) := bool_of _
        obtain ⟨q, hq⟩ := hrec
        have HQ := hid hq
        have HT := hid (fun he : l[k] = l'[k] => takeEq hlt hlt' HF.out he)
        have HN := hid (fun he : ¬ l[k] = l'[k] => (show r = false by cases r; rfl; exact absurd (by have := HR.out.2 rfl; subst this; rfl) he))
        generalize l[k] = x at c0  HQ HT HN hq
        generalize l'[k] = x' at d0  HQ HT HN hq
        clear hrd hrd' hq
        have HB := hid hb
        have c0 := later HB.out c0
        have d0 := later HB.out d0
        have hk0 : (0 : Int) ≤ (k : Int) := by omega
        have hk1 : (k : Int) < (l.length : Int) := by omega
        have hk2 : decide ((k : Int) < (l.length : Int)) = true := decide_eq_true hk1
        have hk3 : decide (k < l.length) = true := decide_eq_true hlt
        have hk4 : IntKind.i64.wrap ((k : Int) + 1) = (k : Int) + 1 := IntWalk.i64_in _ (by omega)
        have HLT := hid hlt
        clear hb hlt' hlt hk
        go_wp2_with fail
        go_quiet (fail)
        have HB2 := hid (ext_trans HB.out (ext_drewN (ext_refl wr) nq))
        clear c0  d0 
        by_cases he : x = x'
        · have HTX := hid (HT.out he)
          have hxx : (x != x') = false := by simp [he]
          clear he
          go_wp2_with fail
          go_roundw
          case rel => exact ⟨k + 1, HLT.out, by go_num, HTX, HB2.out⟩
          case measure => simp [intOf]; have := HLT.out; omega
        · have HNX := hid (HN.out he)
          have hxx : (x != x') = true := by simp [he]
          clear he
          go_wp2_with fail
          go_ret
          exact ⟨ret_bool HNX.out.symm, HB2.out⟩
      · obtain rfl : k = l.length := by omega
        have hk2 : decide ((l.length : Int) < (l.length : Int)) = false := decide_eq_false (by omega)
        go_wp2_with fail
        go_ret
        exact ⟨ret_bool (HR.out.1 (by have := HF.out; rw [List.take_length, HLL.out, List.take_length] at this; exact this)).symm, hb⟩
  · have HN := hid (show r = false by cases r; rfl; exact absurd (congrArg List.length (hr.2 rfl)) hll)
    have hq : ((l.length : Int) == (l'.length : Int)) = false := by rw [beq_eq_false_iff_ne]; omega
    clear hr
    go_enter Tryd.func13, Tryd.ntmps13
    go_wp2_with fail
    go_ret
    exact ⟨ret_bool HN.out.symm, ext_refl _⟩
end Go.Proofs.YtcddlnmcjmhbcaaDoor
/-
  Two boxes of nine cells, laid and filled in any order among reads: what holds all along. Any program.
-/
namespace Go.Proofs.YtcddlnmcjmhbcaaDoor
set_option linter.unusedVariables false
set_option linter.unusedSimpArgs false
open Go Go.RowKit
def nine (w : World) (b : Nat) (v0 v1 v2 v3 v4 v5 v6 v7 v8 : Value) : World := ((((((((w.setCell ⟨b, 0, none⟩ v0).setCell ⟨b, 1, none⟩ v1).setCell ⟨b, 2, none⟩ v2).setCell ⟨b, 3, none⟩ v3).setCell ⟨b, 4, none⟩ v4).setCell ⟨b, 5, none⟩ v5).setCell ⟨b, 6, none⟩ v6).setCell ⟨b, 7, none⟩ v7).setCell ⟨b, 8, none⟩ v8
theorem set9 {w : World} {b : Nat} {c0 c1 c2 c3 c4 c5 c6 c7 c8 : Value} {t : TypeId} (h : Blk w b #[c0, c1, c2, c3, c4, c5, c6, c7, c8] t) (v0 v1 v2 v3 v4 v5 v6 v7 v8 : Value) : Blk (nine w b v0 v1 v2 v3 v4 v5 v6 v7 v8) b #[v0, v1, v2, v3, v4, v5, v6, v7, v8] t := by
  have := ((((((((h.set 0 v0).set 1 v1).set 2 v2).set 3 v3).set 4 v4).set 5 v5).set 6 v6).set 7 v7).set 8 v8
  simpa [nine] using this
theorem far9 {w : World} {b d : Nat} {cs : Array Value} {t : TypeId} (h : Blk w d cs t) (hne : d ≠ b) (v0 v1 v2 v3 v4 v5 v6 v7 v8 : Value) : Blk (nine w b v0 v1 v2 v3 v4 v5 v6 v7 v8) d cs t :=
  ((((((((h.set_other ⟨b, 0, none⟩ v0 hne).set_other ⟨b, 1, none⟩ v1 hne).set_other ⟨b, 2, none⟩ v2 hne).set_other ⟨b, 3, none⟩ v3 hne).set_other ⟨b, 4, none⟩ v4 hne).set_other ⟨b, 5, none⟩ v5 hne).set_other ⟨b, 6, none⟩ v6 hne).set_other ⟨b, 7, none⟩ v7 hne).set_other ⟨b, 8, none⟩ v8 hne
theorem low9 {a w : World} {B b : Nat} (h : Below B a w) (hb : B ≤ b) (v0 v1 v2 v3 v4 v5 v6 v7 v8 : Value) : Below B a (nine w b v0 v1 v2 v3 v4 v5 v6 v7 v8) :=
  ((((((((h.setCell (p := ⟨b, 0, none⟩) hb v0).setCell (p := ⟨b, 1, none⟩) hb v1).setCell (p := ⟨b, 2, none⟩) hb v2).setCell (p := ⟨b, 3, none⟩) hb v3).setCell (p := ⟨b, 4, none⟩) hb v4).setCell (p := ⟨b, 5, none⟩) hb v5).setCell (p := ⟨b, 6, none⟩) hb v6).setCell (p := ⟨b, 7, none⟩) hb v7).setCell (p := ⟨b, 8, none⟩) hb v8
theorem arr9 {cs : Array Value} (h : cs.size = 9) : ∃ c0 c1 c2 c3 c4 c5 c6 c7 c8, cs = #[c0, c1, c2, c3, c4, c5, c6, c7, c8] := by
  obtain ⟨l⟩ := cs
  match l, h with
  | [a, b, c, d, e, f, g, i, j], _ => exact ⟨a, b, c, d, e, f, g, i, j, rfl⟩
/-- n operations that yield what is known; two allocs; two stores. -/
structure Bx (W0 : World) (n : Nat) (K : Nat → Value) (E : Nat → Array Value) (t : TypeId) (l : Nat → Bool) (v : Nat → Value) (w' : World) : Prop where
  mid : Below W0.heap.size W0 w'
  knw : ∀ i, i < n → l i = true → v i = K i
  als : ∀ c, c < 2 → l (n + c) = true → ∃ b cs, v (n + c) = .pointer (some ⟨b, 0, none⟩) ∧ W0.heap.size ≤ b ∧ Blk w' b cs t ∧ cs.size = 9 ∧ (l (n + 2 + c) = true → cs = E c)
  sts : ∀ c, c < 2 → l (n + 2 + c) = true → l (n + c) = true
  far : ∀ c d, c < 2 → d < 2 → c ≠ d → l (n + c) = true → l (n + d) = true → v (n + c) ≠ v (n + d)
theorem Bx.ext {W0 : World} {n : Nat} {K : Nat → Value} {E : Nat → Array Value} {t : TypeId} {l l' : Nat → Bool} {v : Nat → Value} {w' : World} (h : ∀ i, i < n + 4 → l i = l' i) (H : Bx W0 n K E t l v w') : Bx W0 n K E t l' v w' where
  mid := H.mid
  knw c hc hl := H.knw c hc (by rw [h c (by omega)]; exact hl)
  als c hc hl := by
    obtain ⟨b, cs, h1, h2, h3, h4, h5⟩ := H.als c hc (by rw [h (n + c) (by omega)]; exact hl)
    exact ⟨b, cs, h1, h2, h3, h4, fun h6 => h5 (by rw [h (n + 2 + c) (by omega)]; exact h6)⟩
  sts c hc hl := by rw [← h (n + c) (by omega)]; exact H.sts c hc (by rw [h (n + 2 + c) (by omega)]; exact hl)
  far c d hc hd hn h1 h2 := H.far c d hc hd hn (by rw [h (n + c) (by omega)]; exact h1) (by rw [h (n + d) (by omega)]; exact h2)
theorem Bx.start {W0 : World} {n : Nat} {K : Nat → Value} {E : Nat → Array Value} {t : TypeId} {v : Nat → Value} {w' : World} (h2 : Below W0.heap.size W0 w') : Bx W0 n K E t (fun _ => false) v w' where
  mid := h2
  knw c _ h := by cases h
  als c _ h := by cases h
  sts c _ h := by cases h
  far c d _ _ _ h := by cases h
theorem Bx.get {W0 : World} {n : Nat} {K : Nat → Value} {E : Nat → Array Value} {t : TypeId} {l : Nat → Bool} {v : Nat → Value} {w' : World} (i : Nat) (hi : i < n) (H : Bx W0 n K E t l v w') : Bx W0 n K E t (doneL l i) (doneV v i (K i)) w' where
  mid := H.mid
  knw c hc hl := by
    unfold doneV
    unfold doneL at hl
    split
    · rename_i he; rw [he]
    · rename_i hne; rw [if_neg hne] at hl; exact H.knw c hc hl
  als c hc hl := by
    unfold doneV
    unfold doneL at hl ⊢
    rw [if_neg (by omega)] at hl ⊢
    rw [if_neg (by omega)]
    exact H.als c hc hl
  sts c hc hl := by
    unfold doneL at hl ⊢
    rw [if_neg (by omega)] at hl ⊢
    exact H.sts c hc hl
  far c d hc hd hn h1 h2 := by
    unfold doneV
    unfold doneL at h1 h2
    rw [if_neg (by omega)] at h1 h2
    rw [if_neg (by omega), if_neg (by omega)]
    exact H.far c d hc hd hn h1 h2
theorem Bx.alloc {W0 : World} {n : Nat} {K : Nat → Value} {E : Nat → Array Value} {Z : Array Value} {t : TypeId} {l : Nat → Bool} {v : Nat → Value} {w' : World} (hZ : Z.size = 9) (i : Nat) (hi : i < 2) (hl3 : l (n + i) = false) (H : Bx W0 n K E t l v w') :
    Bx W0 n K E t (doneL l (n + i)) (doneV v (n + i) (.pointer (some ⟨w'.heap.size, 0, none⟩))) (w'.alloc (.cells Z t)) := by
  have h0 : W0.heap.size ≤ w'.heap.size := H.mid.size
  have h6 : l (n + 2 + i) = false := by
    cases h : l (n + 2 + i) with
    | false => rfl
    | true => rw [H.sts i hi h] at hl3; cases hl3
  have hne : ∀ c, c < 2 → c ≠ i → l (n + c) = true → v (n + c) ≠ .pointer (some ⟨w'.heap.size, 0, none⟩) := by
    intro c hc hci hl hv
    obtain ⟨b, cs, h1, h2, h3, h4, h5⟩ := H.als c hc hl
    have := h3.lt
    rw [h1] at hv
    injection hv with hv
    injection hv with hv
    injection hv with hv
    omega
  exact {
    mid := ext_alloc H.mid _
    knw := fun c hc hl => by
      unfold doneV
      unfold doneL at hl
      rw [if_neg (by omega)] at hl ⊢
      exact H.knw c hc hl
    als := fun c hc hl => by
      unfold doneV
      by_cases hci : c = i
      · subst hci
        rw [if_pos rfl]
        refine ⟨_, Z, rfl, h0, Blk.new _ _ _, hZ, fun h => ?_⟩
        unfold doneL at h
        rw [if_neg (by omega)] at h
        rw [h6] at h; cases h
      · unfold doneL at hl ⊢
        rw [if_neg (by omega)] at hl ⊢
        rw [if_neg (by omega)]
        obtain ⟨b, cs, h1, h2, h3, h4, h5⟩ := H.als c hc hl
        exact ⟨b, cs, h1, h2, h3.alloc _, h4, h5⟩
    sts := fun c hc hl => by
      unfold doneL at hl ⊢
      rw [if_neg (by omega)] at hl
      split
      · rfl
      · exact H.sts c hc hl
    far := fun c d hc hd hn h1 h2 => by
      unfold doneV
      unfold doneL at h1 h2
      by_cases hci : c = i
      · subst hci
        rw [if_neg (by omega)] at h2
        rw [if_pos rfl, if_neg (by omega)]
        exact fun h => hne d hd (fun e => hn e.symm) h2 h.symm
      · rw [if_neg (by omega)] at h1
        rw [if_neg (by omega)]
        by_cases hdi : d = i
        · subst hdi
          rw [if_pos rfl]
          exact hne c hc hn h1
        · rw [if_neg (by omega)] at h2 ⊢
          exact H.far c d hc hd hn h1 h2 }
theorem Bx.store {W0 : World} {n : Nat} {K : Nat → Value} {E : Nat → Array Value} {v0 v1 v2 v3 v4 v5 v6 v7 v8 x : Value} {t : TypeId} {l : Nat → Bool} {v : Nat → Value} {w' : World} (i b : Nat) (hi : i < 2) (hE : E i = #[v0, v1, v2, v3, v4, v5, v6, v7, v8]) (hl3 : l (n + i) = true) (hv : v (n + i) = .pointer (some ⟨b, 0, none⟩)) (H : Bx W0 n K E t l v w') :
    Bx W0 n K E t (doneL l (n + 2 + i)) (doneV v (n + 2 + i) x) (nine w' b v0 v1 v2 v3 v4 v5 v6 v7 v8) := by
  obtain ⟨b', cs, h1, h2, h3, h4, -⟩ := H.als i hi hl3
  rw [hv] at h1
  injection h1 with h1
  injection h1 with h1
  injection h1 with h1
  subst h1
  exact {
    mid := low9 H.mid h2 _ _ _ _ _ _ _ _ _
    knw := fun c hc hl => by
      unfold doneV
      unfold doneL at hl
      rw [if_neg (by omega)] at hl ⊢
      exact H.knw c hc hl
    als := fun c hc hl => by
      unfold doneV
      unfold doneL at hl
      rw [if_neg (by omega)] at hl ⊢
      by_cases hci : c = i
      · subst hci
        obtain ⟨c0, c1, c2, c3, c4, c5, c6, c7, c8, rfl⟩ := arr9 h4
        exact ⟨b, _, hv, h2, set9 h3 _ _ _ _ _ _ _ _ _, rfl, fun _ => hE.symm⟩
      · obtain ⟨d, ds, g1, g2, g3, g4, g5⟩ := H.als c hc hl
        have hdb : d ≠ b := by
          rintro rfl
          exact H.far c i hc hi hci hl hl3 (g1.trans hv.symm)
        refine ⟨d, ds, g1, g2, far9 g3 hdb _ _ _ _ _ _ _ _ _, g4, fun h => g5 ?_⟩
        unfold doneL at h
        rw [if_neg (by omega)] at h
        exact h
    sts := fun c hc hl => by
      unfold doneL at hl ⊢
      rw [if_neg (by omega)]
      by_cases hci : c = i
      · subst hci; exact hl3
      · rw [if_neg (by omega)] at hl
        exact H.sts c hc hl
    far := fun c d hc hd hn g1 g2 => by
      unfold doneV
      unfold doneL at g1 g2
      rw [if_neg (by omega)] at g1 g2
      rw [if_neg (by omega), if_neg (by omega)]
      exact H.far c d hc hd hn g1 g2 }
end Go.Proofs.YtcddlnmcjmhbcaaDoor
/-
  Walks: attempts are the same (history.same, history.Same; the document's Same). (Printed: tools/gen_htw2.py.)
-/
namespace Go.Proofs.YtcddlnmcjmhbcaaDoor
set_option linter.unusedVariables false
set_option linter.unusedSimpArgs false
set_option linter.unusedVariables false
open Go Go.RowKit
def attV (a : Att) (r u : Value) : Array Value := #[.int .i64 a.th, .int .i64 a.tx, .int .i64 a.from_, .int .i64 a.to_, .int .i64 a.rv, .int .i64 a.wv, .bool a.com, r, u]
theorem att_iff (a b : Att) : a = b ↔ a.th = b.th ∧ a.tx = b.tx ∧ a.from_ = b.from_ ∧ a.to_ = b.to_ ∧ a.rv = b.rv ∧ a.wv = b.wv ∧ a.com = b.com ∧ a.reads = b.reads ∧ a.writes = b.writes := by
  obtain ⟨a1, a2, a3, a4, a5, a6, a7, a8, a9⟩ := a
  obtain ⟨b1, b2, b3, b4, b5, b6, b7, b8, b9⟩ := b
  simp
theorem RdP.shp {w : World} {l : List (Int × Int)} {v : Value} (h : RdP w l v) : ∃ a n c, v = .slice a n c := by
  obtain ⟨a, c, h, -⟩ := h
  exact ⟨a, _, c, h⟩
set_option maxRecDepth 100000 in
set_option maxHeartbeats 4000000 in
theorem hsame1_any (x y : Att) (r u r' u' : Value) (w : World) (h1 : RdP w x.reads r) (h2 : RdP w x.writes u) (h3 : RdP w y.reads r') (h4 : RdP w y.writes u') : ∀ q, (x = y ↔ q = true) → Calls Tryd.prog 29 #[.agg (attV x r u), .agg (attV y r' u')] w fun e' w' => e' = .returned (.bool q) ∧ Below w.heap.size w w' := by
  intro q hq
  obtain ⟨ra, rn, rc, rfl⟩ := h1.shp; obtain ⟨ua, un, uc, rfl⟩ := h2.shp; obtain ⟨ra', rn', rc', rfl⟩ := h3.shp; obtain ⟨ua', un', uc', rfl⟩ := h4.shp
  obtain ⟨qr, hqr⟩ := bool_of (x.reads = y.reads)
  obtain ⟨qw, hqw⟩ := bool_of (x.writes = y.writes)
  have HPR := hid (fun W (hb : Below w.heap.size w W) => peq_any _ _ W (.slice ra rn rc) (.slice ra' rn' rc') (h1.below hb) (h3.below hb) qr hqr)
  have HPW := hid (fun W (hb : Below w.heap.size w W) => peq_any _ _ W (.slice ua un uc) (.slice ua' un' uc') (h2.below hb) (h4.below hb) qw hqw)
  clear h1 h2 h3 h4
  unfold attV
  obtain ⟨W2, hW2⟩ : ∃ W2, W2 = (w.alloc (.cells #[.int .i64 x.th, .int .i64 x.tx, .int .i64 x.from_, .int .i64 x.to_, .int .i64 x.rv, .int .i64 x.wv, .bool x.com, .slice ra rn rc, .slice ua un uc] 58)).alloc (.cells #[.int .i64 y.th, .int .i64 y.tx, .int .i64 y.from_, .int .i64 y.to_, .int .i64 y.rv, .int .i64 y.wv, .bool y.com, .slice ra' rn' rc', .slice ua' un' uc'] 58) := ⟨_, rfl⟩
  have HX : Hid (Blk W2 w.heap.size #[.int .i64 x.th, .int .i64 x.tx, .int .i64 x.from_, .int .i64 x.to_, .int .i64 x.rv, .int .i64 x.wv, .bool x.com, .slice ra rn rc, .slice ua un uc] 58) := hid (by rw [hW2]; exact (Blk.new w _ _).alloc _)
  have HY : Hid (Blk W2 (w.heap.size + 1) #[.int .i64 y.th, .int .i64 y.tx, .int .i64 y.from_, .int .i64 y.to_, .int .i64 y.rv, .int .i64 y.wv, .bool y.com, .slice ra' rn' rc', .slice ua' un' uc'] 58) := hid (by rw [hW2]; exact Blk.new' _ _ _ (by rw [World.size_alloc]))
  have HB : Hid (Below w.heap.size w W2) := hid (by rw [hW2]; exact ext_alloc (ext_alloc (ext_refl _) _) _)
  go_enter Tryd.func29, Tryd.ntmps29
  go_upto_region 1 with (fail)
  rw [← hW2]
  clear hW2
  have HQ := hid hq
  have HQR := hid hqr
  have HQW := hid hqw
  clear hq hqr hqw
  have HPR0 := HPR
  have HPW0 := HPW
  clear HPR HPW
  have HPR := hid (fun W (hb : Below W2.heap.size W2 W) => HPR0.out W (ext_trans HB.out hb))
  have HPW := hid (fun W (hb : Below W2.heap.size W2 W) => HPW0.out W (ext_trans HB.out hb))
  clear HPR0 HPW0
  have a0 := HX.out.cell 0 (v := .int .i64 x.th) rfl
  have b0 := HY.out.cell 0 (v := .int .i64 y.th) rfl
  have a1 := HX.out.cell 1 (v := .int .i64 x.tx) rfl
  have b1 := HY.out.cell 1 (v := .int .i64 y.tx) rfl
  have a2 := HX.out.cell 2 (v := .int .i64 x.from_) rfl
  have b2 := HY.out.cell 2 (v := .int .i64 y.from_) rfl
  have a3 := HX.out.cell 3 (v := .int .i64 x.to_) rfl
  have b3 := HY.out.cell 3 (v := .int .i64 y.to_) rfl
  have a4 := HX.out.cell 4 (v := .int .i64 x.rv) rfl
  have b4 := HY.out.cell 4 (v := .int .i64 y.rv) rfl
  have a5 := HX.out.cell 5 (v := .int .i64 x.wv) rfl
  have b5 := HY.out.cell 5 (v := .int .i64 y.wv) rfl
  have a6 := HX.out.cell 6 (v := .bool x.com) rfl
  have b6 := HY.out.cell 6 (v := .bool y.com) rfl
  have a7 := HX.out.cell 7 (v := .slice ra rn rc) rfl
  have b7 := HY.out.cell 7 (v := .slice ra' rn' rc') rfl
  have a8 := HX.out.cell 8 (v := .slice ua un uc) rfl
  have b8 := HY.out.cell 8 (v := .slice ua' un' uc') rfl
  by_cases e0 : x.th = y.th
  case neg =>
    have j0 : (x.th == y.th) = false := by simpa using e0
    have HF : Hid (q = false) := hid (by cases q; rfl; exact absurd (congrArg Att.th (HQ.out.2 rfl)) e0)
    clear e0
    go_wp2_with fail
    go_ret
    exact ⟨ret_bool HF.out.symm, HB.out⟩
  have j0 : (x.th == y.th) = true := by simpa using e0
  have E0 := hid e0
  clear e0
  by_cases e1 : x.tx = y.tx
  case neg =>
    have j1 : (x.tx == y.tx) = false := by simpa using e1
    have HF : Hid (q = false) := hid (by cases q; rfl; exact absurd (congrArg Att.tx (HQ.out.2 rfl)) e1)
    clear e1
    go_wp2_with fail
    go_ret
    exact ⟨ret_bool HF.out.symm, HB.out⟩
  have j1 : (x.tx == y.tx) = true := by simpa using e1
  have E1 := hid e1
  clear e1
  by_cases e2 : x.from_ = y.from_
  case neg =>
    have j2 : (x.from_ == y.from_) = false := by simpa using e2
    have HF : Hid (q = false) := hid (by cases q; rfl; exact absurd (congrArg Att.from_ (HQ.out.2 rfl)) e2)
    clear e2
    go_wp2_with fail
    go_ret
    exact ⟨ret_bool HF.out.symm, HB.out⟩
  have j2 : (x.from_ == y.from_) = true := by simpa using e2
  have E2 := hid e2
  clear e2
  by_cases e3 : x.to_ = y.to_
  case neg =>
    have j3 : (x.to_ == y.to_) = false := by simpa using e3
    have HF : Hid (q = false) := hid (by cases q; rfl; exact absurd (congrArg Att.to_ (HQ.out.2 rfl)) e3)
    clear e3
    go_wp2_with fail
    go_ret
    exact ⟨ret_bool HF.out.symm, HB.out⟩
  have j3 : (x.to_ == y.to_) = true := by simpa using e3
  have E3 := hid e3
  clear e3
  by_cases e4 : x.rv = y.rv
  case neg =>
    have j4 : (x.rv == y.rv) = false := by simpa using e4
    have HF : Hid (q = false) := hid (by cases q; rfl; exact absurd (congrArg Att.rv (HQ.out.2 rfl)) e4)
    clear e4
    go_wp2_with fail
    go_ret
    exact ⟨ret_bool HF.out.symm, HB.out⟩
  have j4 : (x.rv == y.rv) = true := by simpa using e4
  have E4 := hid e4
  clear e4
  by_cases e5 : x.wv = y.wv
  case neg =>
    have j5 : (x.wv == y.wv) = false := by simpa using e5
    have HF : Hid (q = false) := hid (by cases q; rfl; exact absurd (congrArg Att.wv (HQ.out.2 rfl)) e5)
    clear e5
    go_wp2_with fail
    go_ret
    exact ⟨ret_bool HF.out.symm, HB.out⟩
  have j5 : (x.wv == y.wv) = true := by simpa using e5
  have E5 := hid e5
  clear e5
  by_cases e6 : x.com = y.com
  case neg =>
    have j6 : (x.com == y.com) = false := by simpa using e6
    have HF : Hid (q = false) := hid (by cases q; rfl; exact absurd (congrArg Att.com (HQ.out.2 rfl)) e6)
    clear e6
    go_wp2_with fail
    go_ret
    exact ⟨ret_bool HF.out.symm, HB.out⟩
  have j6 : (x.com == y.com) = true := by simpa using e6
  have E6 := hid e6
  clear e6
  go_wp2_with fail
  refine (HPR.out _ (ext_refl _)).mono ?_
  rintro e5 w8 ⟨rfl, hb8⟩
  have HB8 := hid (ext_trans HB.out hb8)
  replace a0 := later hb8 a0
  replace b0 := later hb8 b0
  replace a1 := later hb8 a1
  replace b1 := later hb8 b1
  replace a2 := later hb8 a2
  replace b2 := later hb8 b2
  replace a3 := later hb8 a3
  replace b3 := later hb8 b3
  replace a4 := later hb8 a4
  replace b4 := later hb8 b4
  replace a5 := later hb8 a5
  replace b5 := later hb8 b5
  replace a6 := later hb8 a6
  replace b6 := later hb8 b6
  replace a7 := later hb8 a7
  replace b7 := later hb8 b7
  replace a8 := later hb8 a8
  replace b8 := later hb8 b8
  have HPW2 := hid (fun W hW => HPW.out W (ext_trans hb8 hW))
  clear hb8
  cases qr
  case false =>
    have HF : Hid (q = false) := hid (by cases q; rfl; exact absurd (HQR.out.1 (congrArg Att.reads (HQ.out.2 rfl))) (by decide))
    go_wp2_with fail
    go_ret
    exact ⟨ret_bool HF.out.symm, HB8.out⟩
  go_wp2_with fail
  refine (HPW2.out _ (ext_refl _)).mono ?_
  rintro e5 w9 ⟨rfl, hb9⟩
  have HB9 := hid (ext_trans HB8.out hb9)
  clear hb9 a0 b0 a1 b1 a2 b2 a3 b3 a4 b4 a5 b5 a6 b6 a7 b7 a8 b8
  cases qw
  case false =>
    have HF : Hid (q = false) := hid (by cases q; rfl; exact absurd (HQW.out.1 (congrArg Att.writes (HQ.out.2 rfl))) (by decide))
    go_wp2_with fail
    go_ret
    exact ⟨ret_bool HF.out.symm, HB9.out⟩
  have HF : Hid (q = true) := hid (HQ.out.1 ((att_iff x y).2 ⟨E0.out, E1.out, E2.out, E3.out, E4.out, E5.out, E6.out, HQR.out.2 (by simp), HQW.out.2 (by simp)⟩))
  go_wp2_with fail
  go_ret
  exact ⟨ret_bool HF.out.symm, HB9.out⟩
set_option maxRecDepth 100000 in
set_option maxHeartbeats 4000000 in
theorem hequal_any (l l' : List Att) (w : World) (v v' : Value) (h : RdA w l v) (h' : RdA w l' v') : ∀ r0, (l = l' ↔ r0 = true) → Calls Tryd.prog 28 #[v, v', .func (.func 29) #[] #[]] w fun e' w' => e' = .returned (.bool r0) ∧ Below w.heap.size w w' := by
  intro r0 hr
  obtain ⟨av, cap, rfl, hlen, hx⟩ := h
  obtain ⟨av', cap', rfl, hlen', hx'⟩ := h'
  have HX0 := hid hx; clear hx
  have HX0' := hid hx'; clear hx'
  by_cases hll : l.length = l'.length
  · have HR := hid hr; clear hr
    rw [← hll]
    have HLL := hid hll; clear hll
    go_enter Tryd.func28, Tryd.ntmps28
    go_wp2_with fail
    go_loopw [17] (fun i wr => ∃ k : Nat, k ≤ l.length ∧ i = .int .i64 k ∧ Hid (l.take k = l'.take k) ∧ Below w.heap.size w wr) (fun i _ => l.length - (intOf i).toNat)
    case atStart => exact ⟨0, Nat.zero_le _, rfl, rfl, ext_refl _⟩
    case round =>
      obtain ⟨k, hk, rfl, HF, hb⟩ := hrel
      by_cases hlt : k < l.length
      · have hlt' : k < l'.length := by have := HLL.out; omega
        obtain ⟨b, off, rfl, hrd⟩ := HX0.out (by intro h; subst h; simp at hlt)
        obtain ⟨b', off', rfl, hrd'⟩ := HX0'.out (by intro h; subst h; simp at hlt')
        obtain ⟨r, u, hm⟩ := hrd k hlt
        obtain ⟨r', u', hm'⟩ := hrd' k hlt'
        obtain ⟨q, hq⟩ := bool_of (l[k] = l'[k])
        have HQ := hid hq
        have HT := hid (fun he : l[k] = l'[k] => takeEq hlt hlt' HF.out he)
        have HN := hid (fun he : ¬ l[k] = l'[k] => (show r0 = false by cases r0; rfl; exact absurd (by have := HR.out.2 rfl; subst this; rfl) he))
        generalize l[k] = x at hm HQ HT HN hq
        generalize l'[k] = y at hm' HQ HT HN hq
        clear hrd hrd' hq
        obtain ⟨ra, rn, rc, rfl⟩ := hm.reads.shp; obtain ⟨ua, un, uc, rfl⟩ := hm.writes.shp; obtain ⟨ra', rn', rc', rfl⟩ := hm'.reads.shp; obtain ⟨ua', un', uc', rfl⟩ := hm'.writes.shp
        have HB := hid hb
        have HM := hid (hm.below hb)
        have HM' := hid (hm'.below hb)
        clear hm hm'
        have hk0 : (0 : Int) ≤ (k : Int) := by omega
        have hk1 : (k : Int) < (l.length : Int) := by omega
        have hk2 : decide ((k : Int) < (l.length : Int)) = true := decide_eq_true hk1
        have hk3 : decide (k < l.length) = true := decide_eq_true hlt
        have hk4 : IntKind.i64.wrap ((k : Int) + 1) = (k : Int) + 1 := IntWalk.i64_in _ (by omega)
        have HLT := hid hlt
        clear hb hlt' hlt hk
        have HCL := hid (fun W (hb : Below wr.heap.size wr W) => hsame1_any x y (.slice ra rn rc) (.slice ua un uc) (.slice ra' rn' rc') (.slice ua' un' uc') W (HM.out.reads.below hb) (HM.out.writes.below hb) (HM'.out.reads.below hb) (HM'.out.writes.below hb) q HQ.out)
        obtain ⟨c0, c1, c2, c3, c4, c5, c6, c7, c8, -, -⟩ := HM.out
        obtain ⟨d0, d1, d2, d3, d4, d5, d6, d7, d8, -, -⟩ := HM'.out
        have lc := lt_of_cell c0
        have ld := lt_of_cell d0
        go_wp2_with fail
        refine (HCL.out _ (by repeat (first | assumption | exact ext_refl _ | refine ext_drew ?_ | refine ext_alloc ?_ _ | refine ext_trans ?_ (by assumption)))).mono ?_
        rintro e w1 ⟨rfl, hb1⟩
        have HB1 := hid (show Below w.heap.size w w1 from ext_trans HB.out (ext_trans (by repeat (first | assumption | exact ext_refl _ | refine ext_drew ?_ | refine ext_alloc ?_ _ | refine ext_trans ?_ (by assumption))) hb1))
        clear hb1 lc ld c0 c1 c2 c3 c4 c5 c6 c7 c8 d0 d1 d2 d3 d4 d5 d6 d7 d8
        cases q
        · have HNX := hid (HN.out (fun he => by have := HQ.out.1 he; cases this))
          go_wp2_with fail
          go_ret
          exact ⟨ret_bool HNX.out.symm, HB1.out⟩
        · have HTX := hid (HT.out (HQ.out.2 rfl))
          go_wp2_with fail
          go_roundw
          case rel => exact ⟨k + 1, HLT.out, by go_num, HTX, HB1.out⟩
          case measure => simp [intOf]; have := HLT.out; omega
      · obtain rfl : k = l.length := by omega
        have hk2 : decide ((l.length : Int) < (l.length : Int)) = false := decide_eq_false (by omega)
        go_wp2_with fail
        go_ret
        exact ⟨ret_bool (HR.out.1 (by have := HF.out; rw [List.take_length, HLL.out, List.take_length] at this; exact this)).symm, hb⟩
  · have HN := hid (show r0 = false by cases r0; rfl; exact absurd (congrArg List.length (hr.2 rfl)) hll)
    have hq : ((l.length : Int) == (l'.length : Int)) = false := by rw [beq_eq_false_iff_ne]; omega
    clear hr
    go_enter Tryd.func28, Tryd.ntmps28
    go_wp2_with fail
    go_ret
    exact ⟨ret_bool HN.out.symm, ext_refl _⟩
set_option maxRecDepth 100000 in
set_option maxHeartbeats 4000000 in
theorem hsame_any (l l' : List Att) (w : World) (v v' : Value) (h : RdA w l v) (h' : RdA w l' v') : ∀ r0, (l = l' ↔ r0 = true) → Calls Tryd.prog 14 #[v, v'] w fun e' w' => e' = .returned (.bool r0) ∧ Below w.heap.size w w' := by
  intro r0 hr
  have HC := hid (hequal_any l l' w v v' h h' r0 hr)
  clear h h' hr
  go_enter Tryd.func14, Tryd.ntmps14
  go_wp2_with fail
  refine HC.out.mono ?_
  rintro e w1 ⟨rfl, hb1⟩
  have HB := hid hb1
  clear hb1
  go_wp2_with fail
  go_ret
  exact ⟨rfl, HB.out⟩
set_option maxRecDepth 100000 in
set_option maxHeartbeats 4000000 in
theorem rsame_any (l l' : List Att) (w : World) (v v' : Value) (h : RdA w l v) (h' : RdA w l' v') : ∀ r0, (l = l' ↔ r0 = true) → Calls Tryd.prog 12 #[v, v'] w fun e' w' => e' = .returned (.bool r0) ∧ Below w.heap.size w w' := by
  intro r0 hr
  obtain ⟨av, cap, rfl, hlen, hx⟩ := h
  obtain ⟨av', cap', rfl, hlen', hx'⟩ := h'
  have HX0 := hid hx; clear hx
  have HX0' := hid hx'; clear hx'
  by_cases hll : l.length = l'.length
  · have HR := hid hr; clear hr
    rw [← hll]
    have HLL := hid hll; clear hll
    go_enter Tryd.func12, Tryd.ntmps12
    go_wp2_with fail
    go_loopw [5] (fun i wr => ∃ k : Nat, k ≤ l.length ∧ i = .int .i64 k ∧ Hid (l.take k = l'.take k) ∧ Below w.heap.size w wr) (fun i _ => l.length - (intOf i).toNat)
    case atStart => exact ⟨0, Nat.zero_le _, rfl, rfl, ext_refl _⟩
    case round =>
      obtain ⟨k, hk, rfl, HF, hb⟩ := hrel
      by_cases hlt : k < l.length
      · have hlt' : k < l'.length := by have := HLL.out; omega
        obtain ⟨b, off, rfl, hrd⟩ := HX0.out (by intro h; subst h; simp at hlt)
        obtain ⟨b', off', rfl, hrd'⟩ := HX0'.out (by intro h; subst h; simp at hlt')
        obtain ⟨r, u, hm⟩ := hrd k hlt
        obtain ⟨r', u', hm'⟩ := hrd' k hlt'
        obtain ⟨q, hq⟩ := bool_of (l[k] = l'[k])
        have HQ := hid hq
        have HT := hid (fun he : l[k] = l'[k] => takeEq hlt hlt' HF.out he)
        have HN := hid (fun he : ¬ l[k] = l'[k] => (show r0 = false by cases r0; rfl; exact absurd (by have := HR.out.2 rfl; subst this; rfl) he))
        generalize l[k] = x at hm HQ HT HN hq
        generalize l'[k] = y at hm' HQ HT HN hq
        clear hrd hrd' hq
        obtain ⟨ra, rn, rc, rfl⟩ := hm.reads.shp; obtain ⟨ua, un, uc, rfl⟩ := hm.writes.shp; obtain ⟨ra', rn', rc', rfl⟩ := hm'.reads.shp; obtain ⟨ua', un', uc', rfl⟩ := hm'.writes.shp
        have HB := hid hb
        have HM := hid (hm.below hb)
        have HM' := hid (hm'.below hb)
        clear hm hm'
        have hk0 : (0 : Int) ≤ (k : Int) := by omega
        have hk1 : (k : Int) < (l.length : Int) := by omega
        have hk2 : decide ((k : Int) < (l.length : Int)) = true := decide_eq_true hk1
        have hk3 : decide (k < l.length) = true := decide_eq_true hlt
        have hk4 : IntKind.i64.wrap ((k : Int) + 1) = (k : Int) + 1 := IntWalk.i64_in _ (by omega)
        have HLT := hid hlt
        clear hb hlt' hlt hk
        obtain ⟨qr, hqr⟩ := bool_of (x.reads = y.reads)
        obtain ⟨qw, hqw⟩ := bool_of (x.writes = y.writes)
        have HPR0 := hid (fun W (hb : Below wr.heap.size wr W) => pairs_any _ _ W (.slice ra rn rc) (.slice ra' rn' rc') (HM.out.reads.below hb) (HM'.out.reads.below hb) qr hqr)
        have HPW0 := hid (fun W (hb : Below wr.heap.size wr W) => pairs_any _ _ W (.slice ua un uc) (.slice ua' un' uc') (HM.out.writes.below hb) (HM'.out.writes.below hb) qw hqw)
        have HQR := hid hqr
        have HQW := hid hqw
        clear hqr hqw
        obtain ⟨c0, c1, c2, c3, c4, c5, c6, c7, c8, -, -⟩ := HM.out
        obtain ⟨d0, d1, d2, d3, d4, d5, d6, d7, d8, -, -⟩ := HM'.out
        go_wp2_with fail
        apply wp_region_inv' (Bx wr 8 (fun i => [.slice (some ⟨b, off, none⟩) l.length cap, .int .i64 (k : Int), .pointer (some ⟨b, off + k * 9, none⟩), .agg #[.int .i64 x.th, .int .i64 x.tx, .int .i64 x.from_, .int .i64 x.to_, .int .i64 x.rv, .int .i64 x.wv, .bool x.com, .slice ra rn rc, .slice ua un uc], .slice (some ⟨b', off', none⟩) l.length cap', .int .i64 (k : Int), .pointer (some ⟨b', off' + k * 9, none⟩), .agg #[.int .i64 y.th, .int .i64 y.tx, .int .i64 y.from_, .int .i64 y.to_, .int .i64 y.rv, .int .i64 y.wv, .bool y.com, .slice ra' rn' rc', .slice ua' un' uc']].getD i undef) (fun c => if c = 0 then #[.int .i64 x.th, .int .i64 x.tx, .int .i64 x.from_, .int .i64 x.to_, .int .i64 x.rv, .int .i64 x.wv, .bool x.com, .slice ra rn rc, .slice ua un uc] else #[.int .i64 y.th, .int .i64 y.tx, .int .i64 y.from_, .int .i64 y.to_, .int .i64 y.rv, .int .i64 y.wv, .bool y.com, .slice ra' rn' rc', .slice ua' un' uc']) 58)
        focus (intro vals; simp [putAll, dstOf, Act.put]; rfl)
        case hm => kernel_rfl
        case hd => kernel_rfl
        case hb => kernel_rfl
        case hng => kernel_rfl
        case hsz => kernel_rfl
        case hext => exact fun l l' v w' h H => H.ext h
        case h0 => exact Bx.start (ext_drew (ext_refl _))
        case hstep =>
          refine ⟨?_, ?_, ?_, ?_, ?_, ?_, ?_, ?_, ?_, ?_, ?_, ?_, trivial⟩
          all_goals (
            intro l1 vs w' hi hd hJ
            refine ⟨(fun g b h => by cases h), fun _ ρ h1 h2 h3 h4 h5 => ?_⟩)
          · have f := h5 0 (by kernel_rfl)
            have HJ := hid hJ
            clear hJ
            unfold OpY
            go_simp
            exact Bx.get 0 (by omega) HJ.out
          · have f := h5 5 (by kernel_rfl)
            have HJ := hid hJ
            clear hJ
            unfold OpY
            go_simp
            exact Bx.get 1 (by omega) HJ.out
          · have fa := (h4 0 19 (by kernel_rfl) (by kernel_rfl)).trans (hJ.knw 0 (by omega) (hd 0 (by kernel_rfl)))
            have fb := (h4 1 20 (by kernel_rfl) (by kernel_rfl)).trans (hJ.knw 1 (by omega) (hd 1 (by kernel_rfl)))
            dsimp only [List.getD, List.getElem?_cons_zero, List.getElem?_cons_succ, Option.getD] at fa fb
            have HJ := hid hJ
            clear hJ
            unfold OpY
            go_simp
            exact Bx.get 2 (by omega) HJ.out
          · have fa := (h4 2 21 (by kernel_rfl) (by kernel_rfl)).trans (hJ.knw 2 (by omega) (hd 2 (by kernel_rfl)))
            dsimp only [List.getD, List.getElem?_cons_zero, List.getElem?_cons_succ, Option.getD] at fa
            have x0 := later hJ.mid c0
            have x1 := later hJ.mid c1
            have x2 := later hJ.mid c2
            have x3 := later hJ.mid c3
            have x4 := later hJ.mid c4
            have x5 := later hJ.mid c5
            have x6 := later hJ.mid c6
            have x7 := later hJ.mid c7
            have x8 := later hJ.mid c8
            have HJ := hid hJ
            clear hJ
            unfold OpY
            go_simp
            exact Bx.get 3 (by omega) HJ.out
          · have f := h5 1 (by kernel_rfl)
            have HJ := hid hJ
            clear hJ
            unfold OpY
            go_simp
            exact Bx.get 4 (by omega) HJ.out
          · have f := h5 5 (by kernel_rfl)
            have HJ := hid hJ
            clear hJ
            unfold OpY
            go_simp
            exact Bx.get 5 (by omega) HJ.out
          · have fa := (h4 4 23 (by kernel_rfl) (by kernel_rfl)).trans (hJ.knw 4 (by omega) (hd 4 (by kernel_rfl)))
            have fb := (h4 5 24 (by kernel_rfl) (by kernel_rfl)).trans (hJ.knw 5 (by omega) (hd 5 (by kernel_rfl)))
            dsimp only [List.getD, List.getElem?_cons_zero, List.getElem?_cons_succ, Option.getD] at fa fb
            have HJ := hid hJ
            clear hJ
            unfold OpY
            go_simp
            exact Bx.get 6 (by omega) HJ.out
          · have fa := (h4 6 25 (by kernel_rfl) (by kernel_rfl)).trans (hJ.knw 6 (by omega) (hd 6 (by kernel_rfl)))
            dsimp only [List.getD, List.getElem?_cons_zero, List.getElem?_cons_succ, Option.getD] at fa
            have x0 := later hJ.mid d0
            have x1 := later hJ.mid d1
            have x2 := later hJ.mid d2
            have x3 := later hJ.mid d3
            have x4 := later hJ.mid d4
            have x5 := later hJ.mid d5
            have x6 := later hJ.mid d6
            have x7 := later hJ.mid d7
            have x8 := later hJ.mid d8
            have HJ := hid hJ
            clear hJ
            unfold OpY
            go_simp
            exact Bx.get 7 (by omega) HJ.out
          · skip
            have HJ := hid hJ
            clear hJ
            unfold OpY
            go_simp
            exact Bx.alloc rfl 0 (by omega) hi HJ.out
          · skip
            have HJ := hid hJ
            clear hJ
            unfold OpY
            go_simp
            exact Bx.alloc rfl 1 (by omega) hi HJ.out
          · have g1 := hd 8 (by kernel_rfl)
            have g2 := hJ.knw 3 (by omega) (hd 3 (by kernel_rfl))
            obtain ⟨b, cs, g3, g4, g5, g6, -⟩ := hJ.als 0 (by omega) g1
            obtain ⟨y0, y1, y2, y3, y4, y5, y6, y7, y8, rfl⟩ := arr9 g6
            have f1 := (h4 8 6 (by kernel_rfl) (by kernel_rfl)).trans g3
            have f2 := (h4 3 22 (by kernel_rfl) (by kernel_rfl)).trans g2
            dsimp only [List.getD, List.getElem?_cons_zero, List.getElem?_cons_succ, Option.getD] at f2
            have HH := hid g5
            have z0 := HH.out.free 0
            have z1 := HH.out.free 1
            have z2 := HH.out.free 2
            have z3 := HH.out.free 3
            have z4 := HH.out.free 4
            have z5 := HH.out.free 5
            have z6 := HH.out.free 6
            have z7 := HH.out.free 7
            have z8 := HH.out.free 8
            have r0 := HH.out.cell 0 (v := y0) rfl
            have r1 := HH.out.cell 1 (v := y1) rfl
            have r2 := HH.out.cell 2 (v := y2) rfl
            have r3 := HH.out.cell 3 (v := y3) rfl
            have r4 := HH.out.cell 4 (v := y4) rfl
            have r5 := HH.out.cell 5 (v := y5) rfl
            have r6 := HH.out.cell 6 (v := y6) rfl
            have r7 := HH.out.cell 7 (v := y7) rfl
            have r8 := HH.out.cell 8 (v := y8) rfl
            have G3 := hid g3
            clear g2 g3 g5
            have HJ := hid hJ
            clear hJ
            unfold OpY
            go_simp
            exact Bx.store 0 b (by omega) rfl g1 G3.out HJ.out
          · have g1 := hd 9 (by kernel_rfl)
            have g2 := hJ.knw 7 (by omega) (hd 7 (by kernel_rfl))
            obtain ⟨b, cs, g3, g4, g5, g6, -⟩ := hJ.als 1 (by omega) g1
            obtain ⟨y0, y1, y2, y3, y4, y5, y6, y7, y8, rfl⟩ := arr9 g6
            have f1 := (h4 9 7 (by kernel_rfl) (by kernel_rfl)).trans g3
            have f2 := (h4 7 26 (by kernel_rfl) (by kernel_rfl)).trans g2
            dsimp only [List.getD, List.getElem?_cons_zero, List.getElem?_cons_succ, Option.getD] at f2
            have HH := hid g5
            have z0 := HH.out.free 0
            have z1 := HH.out.free 1
            have z2 := HH.out.free 2
            have z3 := HH.out.free 3
            have z4 := HH.out.free 4
            have z5 := HH.out.free 5
            have z6 := HH.out.free 6
            have z7 := HH.out.free 7
            have z8 := HH.out.free 8
            have r0 := HH.out.cell 0 (v := y0) rfl
            have r1 := HH.out.cell 1 (v := y1) rfl
            have r2 := HH.out.cell 2 (v := y2) rfl
            have r3 := HH.out.cell 3 (v := y3) rfl
            have r4 := HH.out.cell 4 (v := y4) rfl
            have r5 := HH.out.cell 5 (v := y5) rfl
            have r6 := HH.out.cell 6 (v := y6) rfl
            have r7 := HH.out.cell 7 (v := y7) rfl
            have r8 := HH.out.cell 8 (v := y8) rfl
            have G3 := hid g3
            clear g2 g3 g5
            have HJ := hid hJ
            clear hJ
            unfold OpY
            go_simp
            exact Bx.store 1 b (by omega) rfl g1 G3.out HJ.out
        case hdone =>
          intro vs w6 hJ
          obtain ⟨b0, d0', e0, g0, k0, -, z0⟩ := hJ.als 0 (by omega) rfl
          obtain ⟨b1, d1', e1, g1', k1, -, z1⟩ := hJ.als 1 (by omega) rfl
          obtain rfl := z0 rfl
          obtain rfl := z1 rfl
          have e0 : vs 8 = _ := e0
          have e1 : vs 9 = _ := e1
          rw [e0, e1]
          have HMID := hid hJ.mid
          have HX : Hid (Blk w6 b0 #[.int .i64 x.th, .int .i64 x.tx, .int .i64 x.from_, .int .i64 x.to_, .int .i64 x.rv, .int .i64 x.wv, .bool x.com, .slice ra rn rc, .slice ua un uc] 58) := hid k0
          have HY : Hid (Blk w6 b1 #[.int .i64 y.th, .int .i64 y.tx, .int .i64 y.from_, .int .i64 y.to_, .int .i64 y.rv, .int .i64 y.wv, .bool y.com, .slice ra' rn' rc', .slice ua' un' uc'] 58) := hid k1
          clear hJ e0 e1 k0 k1 z0 z1
          clear c0 c1 c2 c3 c4 c5 c6 c7 c8 d0 d1 d2 d3 d4 d5 d6 d7 d8
          have HB0 := HB
          clear HB
          have HB := hid (ext_trans HB0.out HMID.out)
          have HPR := hid (fun W (hb : Below w6.heap.size w6 W) => HPR0.out W (ext_trans HMID.out hb))
          have HPW := hid (fun W (hb : Below w6.heap.size w6 W) => HPW0.out W (ext_trans HMID.out hb))
          clear HPR0 HPW0
          have hq := HQ.out
          have hqr := HQR.out
          have hqw := HQW.out
          clear HQR HQW
          have HQR := hid hqr
          have HQW := hid hqw
          clear hq hqr hqw
          go_upto_region 7 with (fail)
          have a0 := HX.out.cell 0 (v := .int .i64 x.th) rfl
          have b0 := HY.out.cell 0 (v := .int .i64 y.th) rfl
          have a1 := HX.out.cell 1 (v := .int .i64 x.tx) rfl
          have b1 := HY.out.cell 1 (v := .int .i64 y.tx) rfl
          have a2 := HX.out.cell 2 (v := .int .i64 x.from_) rfl
          have b2 := HY.out.cell 2 (v := .int .i64 y.from_) rfl
          have a3 := HX.out.cell 3 (v := .int .i64 x.to_) rfl
          have b3 := HY.out.cell 3 (v := .int .i64 y.to_) rfl
          have a4 := HX.out.cell 4 (v := .int .i64 x.rv) rfl
          have b4 := HY.out.cell 4 (v := .int .i64 y.rv) rfl
          have a5 := HX.out.cell 5 (v := .int .i64 x.wv) rfl
          have b5 := HY.out.cell 5 (v := .int .i64 y.wv) rfl
          have a6 := HX.out.cell 6 (v := .bool x.com) rfl
          have b6 := HY.out.cell 6 (v := .bool y.com) rfl
          have a7 := HX.out.cell 7 (v := .slice ra rn rc) rfl
          have b7 := HY.out.cell 7 (v := .slice ra' rn' rc') rfl
          have a8 := HX.out.cell 8 (v := .slice ua un uc) rfl
          have b8 := HY.out.cell 8 (v := .slice ua' un' uc') rfl
          by_cases e0 : x.th = y.th
          case neg =>
            have j0 : (x.th != y.th) = true := by simpa using e0
            have HF : Hid (q = false) := hid (by cases q; rfl; exact absurd (congrArg Att.th (HQ.out.2 rfl)) e0)
            clear e0
            go_wp2_with fail
            have HNX := hid (HN.out (fun he => by have := HQ.out.1 he; rw [HF.out] at this; cases this))
            go_ret
            exact ⟨ret_bool HNX.out.symm, HB.out⟩
          have j0 : (x.th != y.th) = false := by simpa using e0
          have E0 := hid e0
          clear e0
          by_cases e1 : x.tx = y.tx
          case neg =>
            have j1 : (x.tx != y.tx) = true := by simpa using e1
            have HF : Hid (q = false) := hid (by cases q; rfl; exact absurd (congrArg Att.tx (HQ.out.2 rfl)) e1)
            clear e1
            go_wp2_with fail
            have HNX := hid (HN.out (fun he => by have := HQ.out.1 he; rw [HF.out] at this; cases this))
            go_ret
            exact ⟨ret_bool HNX.out.symm, HB.out⟩
          have j1 : (x.tx != y.tx) = false := by simpa using e1
          have E1 := hid e1
          clear e1
          by_cases e2 : x.from_ = y.from_
          case neg =>
            have j2 : (x.from_ != y.from_) = true := by simpa using e2
            have HF : Hid (q = false) := hid (by cases q; rfl; exact absurd (congrArg Att.from_ (HQ.out.2 rfl)) e2)
            clear e2
            go_wp2_with fail
            have HNX := hid (HN.out (fun he => by have := HQ.out.1 he; rw [HF.out] at this; cases this))
            go_ret
            exact ⟨ret_bool HNX.out.symm, HB.out⟩
          have j2 : (x.from_ != y.from_) = false := by simpa using e2
          have E2 := hid e2
          clear e2
          by_cases e3 : x.to_ = y.to_
          case neg =>
            have j3 : (x.to_ != y.to_) = true := by simpa using e3
            have HF : Hid (q = false) := hid (by cases q; rfl; exact absurd (congrArg Att.to_ (HQ.out.2 rfl)) e3)
            clear e3
            go_wp2_with fail
            have HNX := hid (HN.out (fun he => by have := HQ.out.1 he; rw [HF.out] at this; cases this))
            go_ret
            exact ⟨ret_bool HNX.out.symm, HB.out⟩
          have j3 : (x.to_ != y.to_) = false := by simpa using e3
          have E3 := hid e3
          clear e3
          by_cases e4 : x.rv = y.rv
          case neg =>
            have j4 : (x.rv != y.rv) = true := by simpa using e4
            have HF : Hid (q = false) := hid (by cases q; rfl; exact absurd (congrArg Att.rv (HQ.out.2 rfl)) e4)
            clear e4
            go_wp2_with fail
            have HNX := hid (HN.out (fun he => by have := HQ.out.1 he; rw [HF.out] at this; cases this))
            go_ret
            exact ⟨ret_bool HNX.out.symm, HB.out⟩
          have j4 : (x.rv != y.rv) = false := by simpa using e4
          have E4 := hid e4
          clear e4
          by_cases e5 : x.wv = y.wv
          case neg =>
            have j5 : (x.wv != y.wv) = true := by simpa using e5
            have HF : Hid (q = false) := hid (by cases q; rfl; exact absurd (congrArg Att.wv (HQ.out.2 rfl)) e5)
            clear e5
            go_wp2_with fail
            have HNX := hid (HN.out (fun he => by have := HQ.out.1 he; rw [HF.out] at this; cases this))
            go_ret
            exact ⟨ret_bool HNX.out.symm, HB.out⟩
          have j5 : (x.wv != y.wv) = false := by simpa using e5
          have E5 := hid e5
          clear e5
          by_cases e6 : x.com = y.com
          case neg =>
            have j6 : (x.com != y.com) = true := by simpa using e6
            have HF : Hid (q = false) := hid (by cases q; rfl; exact absurd (congrArg Att.com (HQ.out.2 rfl)) e6)
            have j6' : (x.com == y.com) = false := by simpa using e6
            clear e6
            go_wp2_with fail
            have HNX := hid (HN.out (fun he => by have := HQ.out.1 he; rw [HF.out] at this; cases this))
            go_ret
            exact ⟨ret_bool HNX.out.symm, HB.out⟩
          have j6 : (x.com != y.com) = false := by simpa using e6
          have E6 := hid e6
          have j6' : (x.com == y.com) = true := by simpa using e6
          clear e6
          go_wp2_with fail
          refine (HPR.out _ (ext_refl _)).mono ?_
          rintro e5 w8 ⟨rfl, hb8⟩
          have HB8 := hid (ext_trans HB.out hb8)
          replace a0 := later hb8 a0
          replace b0 := later hb8 b0
          replace a1 := later hb8 a1
          replace b1 := later hb8 b1
          replace a2 := later hb8 a2
          replace b2 := later hb8 b2
          replace a3 := later hb8 a3
          replace b3 := later hb8 b3
          replace a4 := later hb8 a4
          replace b4 := later hb8 b4
          replace a5 := later hb8 a5
          replace b5 := later hb8 b5
          replace a6 := later hb8 a6
          replace b6 := later hb8 b6
          replace a7 := later hb8 a7
          replace b7 := later hb8 b7
          replace a8 := later hb8 a8
          replace b8 := later hb8 b8
          have HPW2 := hid (fun W hW => HPW.out W (ext_trans hb8 hW))
          clear hb8
          cases qr
          case false =>
            have HF : Hid (q = false) := hid (by cases q; rfl; exact absurd (HQR.out.1 (congrArg Att.reads (HQ.out.2 rfl))) (by decide))
            go_wp2_with fail
            have HNX := hid (HN.out (fun he => by have := HQ.out.1 he; rw [HF.out] at this; cases this))
            go_ret
            exact ⟨ret_bool HNX.out.symm, HB8.out⟩
          go_wp2_with fail
          refine (HPW2.out _ (ext_refl _)).mono ?_
          rintro e5 w9 ⟨rfl, hb9⟩
          have HB9 := hid (ext_trans HB8.out hb9)
          clear hb9 a0 b0 a1 b1 a2 b2 a3 b3 a4 b4 a5 b5 a6 b6 a7 b7 a8 b8
          cases qw
          case false =>
            have HF : Hid (q = false) := hid (by cases q; rfl; exact absurd (HQW.out.1 (congrArg Att.writes (HQ.out.2 rfl))) (by decide))
            go_wp2_with fail
            have HNX := hid (HN.out (fun he => by have := HQ.out.1 he; rw [HF.out] at this; cases this))
            go_ret
            exact ⟨ret_bool HNX.out.symm, HB9.out⟩
          have HF : Hid (q = true) := hid (HQ.out.1 ((att_iff x y).2 ⟨E0.out, E1.out, E2.out, E3.out, E4.out, E5.out, E6.out, HQR.out.2 (by simp), HQW.out.2 (by simp)⟩))
          go_wp2_with fail
          have HTX := hid (HT.out (HQ.out.2 HF.out))
          go_roundw
          case rel => exact ⟨k + 1, HLT.out, by go_num, HTX, HB9.out⟩
          case measure => simp [intOf]; have := HLT.out; omega
      · obtain rfl : k = l.length := by omega
        have hk2 : decide ((l.length : Int) < (l.length : Int)) = false := decide_eq_false (by omega)
        go_wp2_with fail
        go_ret
        exact ⟨ret_bool (HR.out.1 (by have := HF.out; rw [List.take_length, HLL.out, List.take_length] at this; exact this)).symm, hb⟩
  · have HN := hid (show r0 = false by cases r0; rfl; exact absurd (congrArg List.length (hr.2 rfl)) hll)
    have hq : ((l.length : Int) == (l'.length : Int)) = false := by rw [beq_eq_false_iff_ne]; omega
    clear hr
    go_enter Tryd.func12, Tryd.ntmps12
    go_wp2_with fail
    go_ret
    exact ⟨ret_bool HN.out.symm, ext_refl _⟩
end Go.Proofs.YtcddlnmcjmhbcaaDoor
/-
  Walk: seesawref25.mine: the places of the events of an attempt.
-/
namespace Go.Proofs.YtcddlnmcjmhbcaaDoor
set_option linter.unusedVariables false
set_option linter.unusedSimpArgs false
set_option linter.unusedVariables false
open Go Go.RowKit
theorem ev7 {w : World} {a : Option Addr} {l : List Ev} (h : EvsAt w a l) (hn : l ≠ []) : ∃ b o, a = some ⟨b, o, none⟩ ∧ ∀ w', Below w.heap.size w w' → ∀ k (hk : k < l.length), w'.cell? ⟨b, o + k * 7, none⟩ = some (.int .u8 l[k].kind) ∧ w'.cell? ⟨b, o + k * 7 + 1, none⟩ = some (.int .i64 l[k].th) ∧ w'.cell? ⟨b, o + k * 7 + 2, none⟩ = some (.int .i64 l[k].tx) ∧ w'.cell? ⟨b, o + k * 7 + 3, none⟩ = some (.int .i64 l[k].at_) ∧ w'.cell? ⟨b, o + k * 7 + 4, none⟩ = some (.int .i64 l[k].v) ∧ w'.cell? ⟨b, o + k * 7 + 5, none⟩ = some (.int .i64 l[k].x) ∧ w'.cell? ⟨b, o + k * 7 + 6, none⟩ = some (.int .u8 l[k].why) := by
  obtain ⟨b, o, ha, hc⟩ := h.2 hn
  refine ⟨b, o, ha, fun w' hb k hk => ?_⟩
  have c0 := later hb (hc k hk 0 (.int .u8 l[k].kind) rfl)
  rw [Nat.add_zero] at c0
  exact ⟨c0, later hb (hc k hk 1 (.int .i64 l[k].th) rfl), later hb (hc k hk 2 (.int .i64 l[k].tx) rfl), later hb (hc k hk 3 (.int .i64 l[k].at_) rfl), later hb (hc k hk 4 (.int .i64 l[k].v) rfl), later hb (hc k hk 5 (.int .i64 l[k].x) rfl), later hb (hc k hk 6 (.int .u8 l[k].why) rfl)⟩
theorem evA0_at {l : List Ev} {k : Nat} (h : k < l.length) : evA0 l k = l[k] := by unfold evA0; rw [List.getD_eq_getElem?_getD, List.getElem?_eq_getElem h]; rfl
def intN (m : List Nat) : List Value := m.map fun (i : Nat) => Value.int .i64 (i : Int)
theorem intN_snoc (m : List Nat) (k : Nat) : intN (m ++ [k]) = intN m ++ [.int .i64 (k : Int)] := by unfold intN; rw [List.map_append]; rfl
/-- The places below k. -/
def mineK (l : List Ev) (b k : Nat) : List Nat := (List.range k).filter (isM l b)
theorem mineK_len (l : List Ev) (b k : Nat) : (mineK l b k).length ≤ k := by
  unfold mineK
  have := List.length_filter_le (isM l b) (List.range k)
  rwa [List.length_range] at this
theorem mineK_succ (l : List Ev) (b k : Nat) : mineK l b (k + 1) = mineK l b k ++ if isM l b k = true then [k] else [] := by
  unfold mineK
  rw [List.range_succ, List.filter_append, List.filter_cons, List.filter_nil]
theorem mineK_no {l : List Ev} {b k : Nat} (h : isM l b k = false) : mineK l b (k + 1) = mineK l b k := by rw [mineK_succ, h]; simp
theorem mineK_yes {l : List Ev} {b k : Nat} (h : isM l b k = true) : mineK l b (k + 1) = mineK l b k ++ [k] := by rw [mineK_succ, h]; simp
/-- Behind the next one that begins there is none. -/
theorem mineK_end {l : List Ev} {b k : Nat} (hb : b < k) (h1 : (evA0 l k).th = (evA0 l b).th) (h2 : (evA0 l k).kind = 1) : ∀ n, k ≤ n → mineK l b n = mineK l b k := by
  intro n hn
  induction n with
  | zero => obtain rfl : k = 0 := by omega
            rfl
  | succ n ih =>
    by_cases he : k = n + 1
    · rw [he]
    · rw [mineK_no (by rw [Bool.eq_false_iff]; intro hc; exact (isM_iff.1 hc).2.2.2 k hb (by omega) h1 h2)]
      exact ih (by omega)
def MineQ (l : List Ev) (b : Nat) (w : World) (e : Ending) (w' : World) : Prop :=
  ∃ v, e = .returned v ∧ Below w.heap.size w w' ∧ RowM w' w.heap.size 3 1 v (mineP l b).length (intN (mineP l b))
set_option maxRecDepth 100000 in
set_option maxHeartbeats 8000000 in
theorem mine25_any (T V S : Int) (a : Option Addr) (l : List Ev) (cap : Nat) (w : World) (hE : EvsAt w a l) (hl : l.length ≤ 1048576) (b : Nat) (hb : b < l.length) :
    Calls Tryd.prog 26 #[trA T V S a l.length cap, .int .i64 (b : Int)] w (MineQ l b w) := by
  obtain ⟨i0, hi0, hz0, hz1, hz2⟩ := info_parts infoInt13
  obtain ⟨bl, o, rfl, hc⟩ := ev7 hE (by intro h; rw [h] at hb; simp at hb)
  obtain ⟨W0, hW0⟩ : ∃ W0, W0 = w.alloc (.cells #[.int .i64 T, .int .i64 V, .int .i64 S, .slice (some ⟨bl, o, none⟩) l.length cap] 24) := ⟨_, rfl⟩
  have HBX : Hid (Blk W0 w.heap.size #[.int .i64 T, .int .i64 V, .int .i64 S, .slice (some ⟨bl, o, none⟩) l.length cap] 24) := hid (by rw [hW0]; exact Blk.new _ _ _)
  have HB0 : Hid (Below w.heap.size w W0) := hid (by rw [hW0]; exact ext_alloc (ext_refl _) _)
  have HC := hid (fun w' (hW : Below W0.heap.size W0 w') => hc w' (ext_trans HB0.out hW))
  have HL := hid hl
  have HBL := hid hb
  have hb1 : (b : Int) < (l.length : Int) := by omega
  have hb2 : decide (b < l.length) = true := decide_eq_true hb
  have hb3 : (0 : Int) ≤ (b : Int) := by omega
  have HBB := hid (And.intro hb1 (And.intro hb2 hb3))
  obtain ⟨Q, hQ⟩ : ∃ Q, Q = MineQ l b w := ⟨_, rfl⟩
  have HP : Hid (∀ v W', Below W0.heap.size W0 W' → RowM W' W0.heap.size 3 1 v (mineP l b).length (intN (mineP l b)) → Q (.returned v) W') := hid (by
    intro v W' h1 h2
    rw [hQ]
    exact ⟨v, rfl, ext_trans HB0.out h1, h2.wider HB0.out.size⟩)
  rw [← hQ]
  clear hE hl hb hc hQ hb1 hb2 hb3
  unfold trA
  go_enter Tryd.func26, Tryd.ntmps26
  go_wp2_with fail
  rw [← hW0]
  clear hW0
  go_loopw [5, 6] (fun y i wr => ∃ k : Nat, b ≤ k ∧ k ≤ l.length ∧ i = .int .i64 (k : Int) ∧ Hid (∀ j, b < j → j < k → (evA0 l j).th = (evA0 l b).th → (evA0 l j).kind ≠ 1) ∧ Hid (RowM wr W0.heap.size 3 1 y (mineK l b k).length (intN (mineK l b k))) ∧ Hid (Below W0.heap.size W0 wr)) (fun _ i _ => l.length - (intOf i).toNat)
  case atStart =>
    have h0 : mineK l b b = [] := by
      unfold mineK
      rw [List.filter_eq_nil_iff]
      intro i hi
      have := List.mem_range.1 hi
      unfold isM
      simp [show ¬ b ≤ i by omega]
    exact ⟨b, Nat.le_refl _, Nat.le_of_lt HBL.out, rfl, hid (fun j h1 h2 => by omega), hid (by rw [h0]; exact RowM.nil _ _ _ _), hid (ext_refl _)⟩
  case round =>
    obtain ⟨k, hbk, hk, rfl, HNB, HRY, HBR⟩ := hrel
    obtain ⟨py, cy, hyv⟩ := HRY.out.shape
    subst hyv
    have y3 := (HBX.out.below HBR.out).cell 3 (v := .slice (some ⟨bl, o, none⟩) l.length cap) rfl
    by_cases hlt : k < l.length
    · obtain ⟨c0, c1, c2, c3, c4, c5, c6⟩ := HC.out _ HBR.out k hlt
      have HD := hid (fun w' hW => (HC.out w' hW b HBL.out).2.1)
      have HK : Hid (evA0 l k = l[k]) := hid (evA0_at hlt)
      have HKB : Hid (evA0 l b = l[b]'HBL.out) := hid (evA0_at HBL.out)
      generalize l[k] = x at c0 c1 c2 c3 c4 c5 c6 HK
      generalize l[b]'HBL.out = xb at HD HKB
      have HYES : Hid (x.th = xb.th → x.kind ≠ 13 → ¬ (b < k ∧ x.kind = 1) → isM l b k = true) := hid (fun h1 h2 h3 => isM_iff.2 ⟨hbk, by rw [HK.out, HKB.out]; exact h1, by rw [HK.out]; exact h2, fun j a1 a2 a3 => by
        by_cases hj : j = k
        · subst hj; rw [HK.out]; exact fun h4 => h3 ⟨a1, h4⟩
        · exact HNB.out j a1 (by omega) a3⟩)
      have HNO : Hid (x.th ≠ xb.th ∨ x.kind = 13 → isM l b k = false) := hid (fun h => by
        rw [Bool.eq_false_iff]
        intro hc
        have h1 := isM_iff.1 hc
        rw [HK.out, HKB.out] at h1
        rcases h with h | h
        · exact h h1.2.1
        · exact h1.2.2.1 h)
      have HNBS : Hid (¬ (b < k ∧ x.th = xb.th ∧ x.kind = 1) → ∀ j, b < j → j < k + 1 → (evA0 l j).th = (evA0 l b).th → (evA0 l j).kind ≠ 1) := hid (fun h j a1 a2 a3 => by
        by_cases hj : j = k
        · subst hj
          rw [HK.out, HKB.out] at a3
          rw [HK.out]
          exact fun h4 => h ⟨a1, a3, h4⟩
        · exact HNB.out j a1 (by omega) a3)
      have HEND : Hid (b < k → x.th = xb.th → x.kind = 1 → mineK l b k = mineP l b) := hid (fun h1 h2 h3 => by
        have := mineK_end (l := l) (b := b) (k := k) h1 (by rw [HK.out, HKB.out]; exact h2) (by rw [HK.out]; exact h3) l.length (by omega)
        exact this.symm)
      have hk1 : decide ((k : Int) < (l.length : Int)) = true := decide_eq_true (by omega)
      have hk0 : (0 : Int) ≤ (k : Int) := by omega
      have hk3 : decide (k < l.length) = true := decide_eq_true hlt
      have hk5 : (k : Int) < (l.length : Int) := by omega
      have HK4 : Hid (IntKind.i64.wrap ((k : Int) + 1) = (k : Int) + 1) := hid (IntWalk.i64_in _ (by have := HL.out; omega))
      have HLT := hid hlt
      have HBK := hid hbk
      clear hlt hk hbk
      go_wp2_with fail
      obtain ⟨hb1, hb2, hb3⟩ := HBB.out
      have d1 := HD.out wr HBR.out
      have e1 := (Blk.new wr #[.int .u8 x.kind, .int .i64 x.th, .int .i64 x.tx, .int .i64 x.at_, .int .i64 x.v, .int .i64 x.x, .int .u8 x.why] 49).cell 1 (v := .int .i64 x.th) rfl
      have y3' := ((HBX.out.below HBR.out).alloc (.cells #[.int .u8 x.kind, .int .i64 x.th, .int .i64 x.tx, .int .i64 x.at_, .int .i64 x.v, .int .i64 x.x, .int .u8 x.why] 49)).cell 3 (v := .slice (some ⟨bl, o, none⟩) l.length cap) rfl
      have d1' := later (ext_alloc (ext_refl wr) (.cells #[.int .u8 x.kind, .int .i64 x.th, .int .i64 x.tx, .int .i64 x.at_, .int .i64 x.v, .int .i64 x.x, .int .u8 x.why] 49)) d1
      clear d1 c0 c1 c2 c3 c4 c5 c6 y3
      go_quiet (fail)
      have HB3 : Hid (Below W0.heap.size W0 ((wr.alloc (.cells #[.int .u8 x.kind, .int .i64 x.th, .int .i64 x.tx, .int .i64 x.at_, .int .i64 x.v, .int .i64 x.x, .int .u8 x.why] 49)).drewN nq)) := hid (ext_drewN (ext_alloc HBR.out _) _)
      have HR3 : Hid (RowM ((wr.alloc (.cells #[.int .u8 x.kind, .int .i64 x.th, .int .i64 x.tx, .int .i64 x.at_, .int .i64 x.v, .int .i64 x.x, .int .u8 x.why] 49)).drewN nq) W0.heap.size 3 1 (.slice py (mineK l b k).length cy) (mineK l b k).length (intN (mineK l b k))) := hid (HRY.out.old (ext_drewN (ext_alloc (ext_refl _) _) _))
      have HE3 : Hid (Blk ((wr.alloc (.cells #[.int .u8 x.kind, .int .i64 x.th, .int .i64 x.tx, .int .i64 x.at_, .int .i64 x.v, .int .i64 x.x, .int .u8 x.why] 49)).drewN nq) wr.heap.size #[.int .u8 x.kind, .int .i64 x.th, .int .i64 x.tx, .int .i64 x.at_, .int .i64 x.v, .int .i64 x.x, .int .u8 x.why] 49) := hid ((Blk.new _ _ _).below (ext_drewN (ext_refl _) _))
      obtain ⟨W3, hW3⟩ : ∃ W3, W3 = ((wr.alloc (.cells #[.int .u8 x.kind, .int .i64 x.th, .int .i64 x.tx, .int .i64 x.at_, .int .i64 x.v, .int .i64 x.x, .int .u8 x.why] 49)).drewN nq) := ⟨_, rfl⟩
      rw [← hW3] at HB3 HR3 HE3 ⊢
      clear hW3 e1 y3' d1'
      have e0 := HE3.out.cell 0 (v := .int .u8 x.kind) rfl
      have hk4 := HK4.out
      by_cases t1 : x.th = xb.th
      · have x1 : (x.th != xb.th) = false := by simp [t1]
        by_cases t2 : b < k
        · have x2 : decide ((b : Int) < (k : Int)) = true := decide_eq_true (by omega)
          have x2' : decide (b < k) = true := decide_eq_true t2
          by_cases t3 : x.kind = 1
          · have x3 : (x.kind == 1) = true := by simp [t3]
            have HE := hid (HEND.out t2 t1 t3)
            clear t1 t2 t3
            go_wp2_with fail
            exact HP.out _ _ HB3.out (by rw [← HE.out]; exact HR3.out)
          · have x3 : (x.kind == 1) = false := by simp [t3]
            by_cases t4 : x.kind = 13
            · have x4 : (x.kind == 13) = true := by simp [t4]
              have x5 : (x.kind != 13) = false := by simp [t4]
              have HNB2 := hid (HNBS.out (fun h => t3 h.2.2))
              have HZ := hid (mineK_no (HNO.out (Or.inr t4)))
              clear t1 t2 t4 t3
              go_wp2_with fail
              go_roundw
              case rel => exact ⟨k + 1, by have := HBK.out; omega, HLT.out, by go_num, HNB2, hid (by rw [HZ.out]; exact HR3.out), HB3⟩
              case measure => simp [intOf]; have := HLT.out; omega
            · have x4 : (x.kind == 13) = false := by simp [t4]
              have x5 : (x.kind != 13) = true := by simp [t4]
              have HNB2 := hid (HNBS.out (fun h => t3 h.2.2))
              have HZ := hid (mineK_yes (HYES.out t1 t4 (fun h => t3 h.2)))
              clear t1 t2 t4 t3
              have HML := hid (Nat.le_trans (mineK_len l b k) (Nat.le_of_lt HLT.out))
              have hown1 := own_old HR3.out.1 (ext_alloc (ext_refl _) (.cells #[.int .i64 (k : Int)] 3))
              have hb4 : Below W0.heap.size W0 (W3.alloc (.cells #[.int .i64 (k : Int)] 3)) := ext_alloc HB3.out _
              have cn := (Blk.new W3 #[.int .i64 (k : Int)] 3).cell 0 (v := .int .i64 (k : Int)) rfl
              go_wp2_with (first
                | (at_builtin; refine wpList_append_own_at _ rfl (.tmp 41) (.tmp 43) 32 rfl W0.heap.size 3 i0 _ 1 8 Tryd.underlying32 hi0 hz0 hz1 hz2 rfl (by decide) (.slice py (mineK l b k).length cy) _ _ rfl hown1 ⟨W3.heap.size, 0, none⟩ 1 1 [.int .i64 (k : Int)] rfl rfl (by intro j u hu; cases j with | zero => (simp at hu; subst hu; exact cn) | succ j => (simp at hu)) (by intro u hu; simp at hu; subst hu; rfl) (by have := HML.out; have := HL.out; unfold maxLen; omega) (by have := HML.out; have := HL.out; omega) hb4.size ?_; intro v' w5 hown' hg hn hd; obtain ⟨g, cp, rfl⟩ := own_form hown'))
              have HB5 := hid (hb4.grown hg hb4.size (fun k hk => (hown1.lt k hk).1))
              have HO := hid hown'
              clear hown' hg hn hd hown1 hb4 cn
              go_wp2_with fail
              go_roundw
              case rel => exact ⟨k + 1, by have := HBK.out; omega, HLT.out, by go_num, HNB2, hid (by rw [HZ.out, intN_snoc, List.length_append]; exact ⟨HO.out, fun h => by simp at h⟩), HB5⟩
              case measure => simp [intOf]; have := HLT.out; omega
        · have x2 : decide ((b : Int) < (k : Int)) = false := decide_eq_false (by omega)
          have x2' : decide (b < k) = false := decide_eq_false t2
          by_cases t4 : x.kind = 13
          · have x4 : (x.kind == 13) = true := by simp [t4]
            have x5 : (x.kind != 13) = false := by simp [t4]
            have HNB2 := hid (HNBS.out (fun h => t2 h.1))
            have HZ := hid (mineK_no (HNO.out (Or.inr t4)))
            clear t1 t2 t4
            go_wp2_with fail
            go_roundw
            case rel => exact ⟨k + 1, by have := HBK.out; omega, HLT.out, by go_num, HNB2, hid (by rw [HZ.out]; exact HR3.out), HB3⟩
            case measure => simp [intOf]; have := HLT.out; omega
          · have x4 : (x.kind == 13) = false := by simp [t4]
            have x5 : (x.kind != 13) = true := by simp [t4]
            have HNB2 := hid (HNBS.out (fun h => t2 h.1))
            have HZ := hid (mineK_yes (HYES.out t1 t4 (fun h => t2 h.1)))
            clear t1 t2 t4
            have HML := hid (Nat.le_trans (mineK_len l b k) (Nat.le_of_lt HLT.out))
            have hown1 := own_old HR3.out.1 (ext_alloc (ext_refl _) (.cells #[.int .i64 (k : Int)] 3))
            have hb4 : Below W0.heap.size W0 (W3.alloc (.cells #[.int .i64 (k : Int)] 3)) := ext_alloc HB3.out _
            have cn := (Blk.new W3 #[.int .i64 (k : Int)] 3).cell 0 (v := .int .i64 (k : Int)) rfl
            go_wp2_with (first
              | (at_builtin; refine wpList_append_own_at _ rfl (.tmp 41) (.tmp 43) 32 rfl W0.heap.size 3 i0 _ 1 8 Tryd.underlying32 hi0 hz0 hz1 hz2 rfl (by decide) (.slice py (mineK l b k).length cy) _ _ rfl hown1 ⟨W3.heap.size, 0, none⟩ 1 1 [.int .i64 (k : Int)] rfl rfl (by intro j u hu; cases j with | zero => (simp at hu; subst hu; exact cn) | succ j => (simp at hu)) (by intro u hu; simp at hu; subst hu; rfl) (by have := HML.out; have := HL.out; unfold maxLen; omega) (by have := HML.out; have := HL.out; omega) hb4.size ?_; intro v' w5 hown' hg hn hd; obtain ⟨g, cp, rfl⟩ := own_form hown'))
            have HB5 := hid (hb4.grown hg hb4.size (fun k hk => (hown1.lt k hk).1))
            have HO := hid hown'
            clear hown' hg hn hd hown1 hb4 cn
            go_wp2_with fail
            go_roundw
            case rel => exact ⟨k + 1, by have := HBK.out; omega, HLT.out, by go_num, HNB2, hid (by rw [HZ.out, intN_snoc, List.length_append]; exact ⟨HO.out, fun h => by simp at h⟩), HB5⟩
            case measure => simp [intOf]; have := HLT.out; omega
      · have x1 : (x.th != xb.th) = true := by simp [t1]
        have HZ := hid (mineK_no (HNO.out (Or.inl t1)))
        have HNB2 := hid (HNBS.out (fun h => t1 h.2.1))
        clear t1
        go_wp2_with fail
        go_roundw
        case rel => exact ⟨k + 1, by have := HBK.out; omega, HLT.out, by go_num, HNB2, hid (by rw [HZ.out]; exact HR3.out), HB3⟩
        case measure => simp [intOf]; have := HLT.out; omega
    · obtain rfl : k = l.length := by omega
      have hk1 : decide ((l.length : Int) < (l.length : Int)) = false := decide_eq_false (by omega)
      clear hlt hk
      go_wp2_with fail
      exact HP.out _ _ HBR.out HRY.out
end Go.Proofs.YtcddlnmcjmhbcaaDoor
/-
  Walk: seesawref25.Split: which attempt each event is of.
-/
namespace Go.Proofs.YtcddlnmcjmhbcaaDoor
set_option linter.unusedVariables false
set_option linter.unusedSimpArgs false
set_option linter.unusedVariables false
open Go Go.RowKit
def arrI (o : List Int) : Array Value := (o.map (.int .i64)).toArray
theorem arrI_get {o : List Int} {i : Nat} (h : i < o.length) : (arrI o)[i]? = some (.int .i64 o[i]) := by
  unfold arrI
  rw [List.getElem?_toArray, List.getElem?_map, List.getElem?_eq_getElem h]; rfl
theorem arrI_set (o : List Int) (i : Nat) (x : Int) : (arrI o).setIfInBounds i (.int .i64 x) = arrI (o.set i x) := by
  unfold arrI
  rw [List.setIfInBounds_toArray, List.map_set]
theorem stI {w : World} {G : Nat} {o : List Int} {t : TypeId} (h : Blk w G (arrI o) t) (i : Nat) (x : Int) : Blk (w.setCell ⟨G, i, none⟩ (.int .i64 x)) G (arrI (o.set i x)) t := by
  have := h.set i (.int .i64 x)
  rwa [arrI_set] at this
theorem made_int (n : Nat) : madeCells #[Value.int .i64 0] (n * 1) = arrI (List.replicate n 0) := by
  rw [made_flat _ 1 n rfl (by omega)]
  unfold flatA arrI
  congr 1
  induction n with
  | zero => rfl
  | succ n ih => rw [List.replicate_succ, List.flatten_cons, ih]; rfl
theorem mk_int (W : World) (n : Nat) (hn : n ≤ 2000) : (Instr.makeSlice 32 (.int .i64 (n : Int)) (.int .i64 (n : Int))).run Tryd.prog W = .ok (.slice (some ⟨W.heap.size, 0, none⟩) n n) (W.alloc (.cells (arrI (List.replicate n 0)) 3)) := by
  obtain ⟨i0, hi, hz0, hz1, hz2⟩ := info_parts infoInt13
  rw [run_make W 32 3 i0 _ Tryd.underlying32 hi hz0 .i64 .i64 n n (by omega) (by omega) (by rw [hz2]; omega) (by omega), hz1]
  simp only [Int.toNat_natCast]
  rw [show (Value.int .i64 0).cells = #[Value.int .i64 0] from rfl, made_int]
/-- All -1 up to k. -/
def negK (n k : Nat) : List Int := List.replicate k (-1) ++ List.replicate (n - k) 0
theorem negK_succ {n k : Nat} (h : k < n) : (negK n k).set k (-1) = negK n (k + 1) := by
  unfold negK
  rw [List.set_append_right _ _ (by simp), List.length_replicate, Nat.sub_self]
  obtain ⟨m, hm⟩ : ∃ m, n - k = m + 1 := ⟨n - k - 1, by omega⟩
  rw [hm, List.replicate_succ, List.set_cons_zero, show n - (k + 1) = m by omega]
  rw [List.replicate_succ', List.append_assoc]; rfl
theorem negK_len {n k : Nat} (h : k ≤ n) : (negK n k).length = n := by unfold negK; simp; omega
theorem setsR_snoc (o : List Int) (m : List Nat) (i : Nat) (n : Int) : setsR o (m ++ [i]) n = (setsR o m n).set i n := by unfold setsR; rw [List.foldl_append]; rfl
theorem rowM_cells {w : World} {base : Nat} {v : Value} {m : List Nat} (h : RowM w base 3 1 v m.length (intN m)) (hm : 0 < m.length) : ∃ g c, v = .slice (some ⟨g, 0, none⟩) m.length c ∧ base ≤ g ∧ ∀ j (hj : j < m.length), w.cell? ⟨g, j, none⟩ = some (.int .i64 (m[j] : Int)) := by
  rcases h.cases with ⟨h0, -, -⟩ | ⟨g, cap, hv, -, -, hg, -, hu⟩
  · omega
  · refine ⟨g, cap, hv, hg, fun j hj => ?_⟩
    have := hu j (.int .i64 (m[j] : Int)) (by unfold intN; rw [List.getElem?_map, List.getElem?_eq_getElem hj]; rfl)
    simpa using this
theorem splitK_bound (l : List Ev) (k : Nat) : 0 ≤ (splitK l k).2 ∧ (splitK l k).2 ≤ k := by
  rw [splitK_n]
  have := List.length_filter_le (isB l) (List.range k)
  rw [List.length_range] at this
  omega
def SplitQ (T V S : Int) (l : List Ev) (w : World) (e : Ending) (w' : World) : Prop :=
  ∃ v, e = .returned (.tuple #[v, .int .i64 (checkT T V S l).2]) ∧ Below w.heap.size w w' ∧ RdN w' (if (checkT T V S l).2 = 0 then splitR l else []) v
set_option maxRecDepth 100000 in
set_option maxHeartbeats 8000000 in
theorem rsplit_any (T V S : Int) (a : Option Addr) (l : List Ev) (cap : Nat) (w : World) (hE : EvsAt w a l) (hl : l.length ≤ 2000) (hcap : l.length ≤ cap) (hN : NamesR w) :
    Calls Tryd.prog 11 #[trA T V S a l.length cap] w (SplitQ T V S l w) := by
  obtain ⟨W0, hW0⟩ : ∃ W0, W0 = w.alloc (.cells #[.int .i64 T, .int .i64 V, .int .i64 S, .slice a l.length cap] 24) := ⟨_, rfl⟩
  have HBX : Hid (Blk W0 w.heap.size #[.int .i64 T, .int .i64 V, .int .i64 S, .slice a l.length cap] 24) := hid (by rw [hW0]; exact Blk.new _ _ _)
  have HB0 : Hid (Below w.heap.size w W0) := hid (by rw [hW0]; exact ext_alloc (ext_refl _) _)
  have HCK := hid (fun W (hW : Below w.heap.size w W) => refcheck_any T V S a l cap W (hE.below hW) (by omega) hcap (hN.below hW))
  have HMN := hid (fun W (hW : Below w.heap.size w W) b hb => mine25_any T V S a l cap W (hE.below hW) (by omega) b hb)
  have HE := hid hE
  have HL := hid hl
  obtain ⟨Q, hQ⟩ : ∃ Q, Q = SplitQ T V S l w := ⟨_, rfl⟩
  obtain ⟨p, q, hpq⟩ : ∃ p q, checkT T V S l = (p, q) := ⟨_, _, rfl⟩
  have HP : Hid (∀ v W', Below w.heap.size w W' → RdN W' (if q = 0 then splitR l else []) v → Q (.returned (.tuple #[v, .int .i64 q])) W') := hid (by
    intro v W' h1 h2
    rw [hQ]
    refine ⟨v, by rw [hpq], h1, by rw [hpq]; exact h2⟩)
  rw [← hQ]
  rw [hpq] at HCK
  have hmk := fun W => mk_int W l.length hl
  have b1 : decide ((9223372036854775807 : Int) < (l.length : Int)) = false := by rw [decide_eq_false_iff_not]; omega
  have b2 : decide ((l.length : Int) < 0) = false := by rw [decide_eq_false_iff_not]; omega
  clear hE hl hcap hN hQ hpq
  unfold trA at *
  dsimp only at HCK
  go_enter Tryd.func11, Tryd.ntmps11
  go_wp2_with fail
  rw [← hW0]
  clear hW0
  refine (HCK.out _ HB0.out).mono ?_
  rintro e' w1 ⟨rfl, hb1⟩
  have HB1 := hid (ext_trans HB0.out hb1)
  have HBX1 := hid (HBX.out.below hb1)
  clear hb1 HBX
  by_cases hq : q = 0
  case neg =>
    have q1 : (q == 0) = false := by simpa using hq
    have q2 : (q != 0) = true := by simpa using hq
    have HQ := hid hq
    clear hq
    go_wp2_with fail
    exact HP.out _ _ HB1.out (by rw [if_neg HQ.out]; exact ⟨none, 0, rfl, by simp, fun h => absurd rfl h⟩)
  subst hq
  have y3 := HBX1.out.cell 3 (v := .slice a l.length cap) rfl
  go_wp2_with fail
  have HN0 := hid (show l.length ≤ 2000 from HL.out)
  clear b1 b2 hmk
  go_loopw [7] (fun i wr => ∃ k : Nat, k ≤ l.length ∧ i = .int .i64 (k : Int) ∧ Hid (Blk wr w1.heap.size (arrI (negK l.length k)) 3) ∧ Hid (Below w1.heap.size w1 wr)) (fun i _ => l.length - (intOf i).toNat)
  case atStart => exact ⟨0, Nat.zero_le _, rfl, hid (by unfold negK; simpa using Blk.new w1 (arrI (List.replicate l.length 0)) 3), hid (ext_alloc (ext_refl _) _)⟩
  case round =>
    obtain ⟨k, hk, rfl, HBG, HBR⟩ := hrel
    by_cases hlt : k < l.length
    · have hk0 : (0 : Int) ≤ (k : Int) := by omega
      have hk1 : decide ((k : Int) < (l.length : Int)) = true := decide_eq_true (by omega)
      have hk3 : decide (k < l.length) = true := decide_eq_true hlt
      have hk5 : (k : Int) < (l.length : Int) := by omega
      have hk4 : IntKind.i64.wrap ((k : Int) + 1) = (k : Int) + 1 := IntWalk.i64_in _ (by have := HL.out; omega)
      obtain ⟨x0, c⟩ : ∃ x0, wr.cell? ⟨w1.heap.size, k, none⟩ = some x0 := ⟨_, HBG.out.cell k (arrI_get (by rw [negK_len hk]; exact hlt))⟩
      have z := HBG.out.free k
      have HLT := hid hlt
      clear hlt hk
      go_wp2_with fail
      go_roundw
      case rel => exact ⟨k + 1, HLT.out, by go_num, hid (by rw [← negK_succ HLT.out]; exact stI HBG.out k (-1)), hid (HBR.out.setCell (p := ⟨w1.heap.size, k, none⟩) (Nat.le_refl _) _)⟩
      case measure => simp [intOf]; have := HLT.out; omega
    · obtain rfl : k = l.length := by omega
      have hk1 : decide ((l.length : Int) < (l.length : Int)) = false := decide_eq_false (by omega)
      clear hlt hk
      have HS0 : Hid (Blk wr w1.heap.size (arrI (splitK l 0).1) 3) := hid (by
        have h := HBG.out
        unfold negK at h
        simpa [splitK] using h)
      clear HBG y3
      have y3 := (HBX1.out.below HBR.out).cell 3 (v := .slice a l.length cap) rfl
      go_wp2_with fail
      clear hk1 y3
      go_loopw [8, 9] (fun y i wr => ∃ k : Nat, k ≤ l.length ∧ i = .int .i64 (k : Int) ∧ y = .int .i64 (splitK l k).2 ∧ Hid (Blk wr w1.heap.size (arrI (splitK l k).1) 3) ∧ Hid (Below w1.heap.size w1 wr)) (fun _ i _ => l.length - (intOf i).toNat)
      case atStart => exact ⟨0, Nat.zero_le _, rfl, rfl, HS0, HBR⟩
      case round =>
        clear HS0 HBR
        obtain ⟨k, hk, rfl, rfl, HBG, HBR⟩ := hrel
        have y0 := (HBX1.out.below HBR.out).cell 0 (v := .int .i64 T) rfl
        have y1 := (HBX1.out.below HBR.out).cell 1 (v := .int .i64 V) rfl
        have y2 := (HBX1.out.below HBR.out).cell 2 (v := .int .i64 S) rfl
        have y3 := (HBX1.out.below HBR.out).cell 3 (v := .slice a l.length cap) rfl
        by_cases hlt : k < l.length
        · obtain ⟨bl, o, rfl, hc⟩ := ev7 HE.out (by intro h; rw [h] at hlt; simp at hlt)
          have c0 := (hc wr (ext_trans HB1.out HBR.out) k hlt).1
          have HK : Hid (evA0 l k = l[k]) := hid (evA0_at hlt)
          generalize l[k] = x at c0 HK
          obtain ⟨kind, eth, etx, eat, ev, ex, ewhy⟩ := x
          dsimp only at c0
          have HKK : Hid ((evA0 l k).kind = kind) := hid (by rw [HK.out])
          have hk0 : (0 : Int) ≤ (k : Int) := by omega
          have hk1 : decide ((k : Int) < (l.length : Int)) = true := decide_eq_true (by omega)
          have hk3 : decide (k < l.length) = true := decide_eq_true hlt
          have hk5 : (k : Int) < (l.length : Int) := by omega
          have hk4 : IntKind.i64.wrap ((k : Int) + 1) = (k : Int) + 1 := IntWalk.i64_in _ (by have := HL.out; omega)
          have HLT := hid hlt
          have HSK := hid (splitK_succ l k)
          have hbd := splitK_bound l k
          have hol := splitK_len l k
          obtain ⟨os, n, hon⟩ : ∃ os n, splitK l k = (os, n) := ⟨_, _, rfl⟩
          rw [hon] at HBG HSK hbd hol ⊢
          dsimp only at HBG hbd hol ⊢
          have HOL := hid hol
          have hn4 : IntKind.i64.wrap (n + 1) = n + 1 := IntWalk.i64_in _ (by have := HL.out; omega)
          have HN4 := hid hn4
          clear hlt hk hc hon hbd hol hn4 HK
          by_cases t : kind = 1
          case neg =>
            have x1 : (kind == 1) = false := by simp [t]
            have x2 : (kind != 1) = true := by simp [t]
            have HZ : Hid (splitK l (k + 1) = (os, n)) := hid (by rw [HSK.out]; unfold stepK isB; rw [HKK.out, decide_eq_false t]; rfl)
            clear t
            go_wp2_with fail
            go_roundw
            case rel => exact ⟨k + 1, HLT.out, by go_num, by rw [HZ.out], hid (by rw [HZ.out]; exact HBG.out), HBR⟩
            case measure => simp [intOf]; have := HLT.out; omega
          have x1 : (kind == 1) = true := by simp [t]
          have x2 : (kind != 1) = false := by simp [t]
          have HZ : Hid (splitK l (k + 1) = (setsR os (mineP l k) n, n + 1)) := hid (by rw [HSK.out]; unfold stepK isB; rw [HKK.out, decide_eq_true t]; rfl)
          have HKM : Hid (0 < (mineP l k).length) := hid (List.length_pos_of_mem (mem_mineP.2 ⟨HLT.out, isM_iff.2 ⟨Nat.le_refl _, rfl, by rw [HKK.out]; omega, fun j a1 a2 => by omega⟩⟩))
          have HMB : Hid (∀ i ∈ mineP l k, i < l.length) := hid (fun i hi => (mem_mineP.1 hi).1)
          have HMLN : Hid ((mineP l k).length ≤ l.length) := hid (by have := mineK_len l k l.length; exact this)
          clear t
          go_wp2_with fail
          refine (HMN.out wr (ext_trans HB1.out HBR.out) k HLT.out).mono ?_
          rintro e' w5 ⟨v, rfl, hb5, hr⟩
          obtain ⟨g, cg, rfl, hg, hcg⟩ := rowM_cells hr HKM.out
          have HGG : Hid (g ≠ w1.heap.size) := hid (by have := HBG.out.lt; omega)
          have HCG := hid hcg
          have HBG5 := hid (HBG.out.below hb5)
          have HBR5 := hid (ext_trans HBR.out hb5)
          clear hb5 hr hg hcg HBG HBR c0 y0 y1 y2 y3
          generalize mineP l k = m at *
          have hn4 := HN4.out
          go_wp2_with fail
          go_loopw [11] (fun i wq => ∃ j : Nat, j ≤ m.length ∧ i = .int .i64 (j : Int) ∧ Hid (Blk wq w1.heap.size (arrI (setsR os (m.take j) n)) 3) ∧ Hid (∀ j (hj : j < m.length), wq.cell? ⟨g, j, none⟩ = some (.int .i64 (m[j] : Int))) ∧ Hid (Below w1.heap.size w1 wq)) (fun i _ => m.length - (intOf i).toNat)
          case atStart => exact ⟨0, Nat.zero_le _, rfl, HBG5, HCG, HBR5⟩
          case round =>
            clear HBG5 HCG HBR5
            obtain ⟨j, hj, rfl, HBG, HCG, HBR⟩ := hrel
            by_cases hjl : j < m.length
            · have r := HCG.out j hjl
              have HX : Hid (m[j] < l.length) := hid (HMB.out _ (List.getElem_mem hjl))
              have HTK := hid (List.take_succ_eq_append_getElem hjl)
              generalize m[j] = x at r HX HTK
              obtain ⟨x0, c⟩ : ∃ x0, wr.cell? ⟨w1.heap.size, x, none⟩ = some x0 := ⟨_, HBG.out.cell x (arrI_get (by rw [setsR_len, HOL.out]; exact HX.out))⟩
              have z := HBG.out.free x
              have j0 : (0 : Int) ≤ (j : Int) := by omega
              have j1 : decide ((j : Int) < (m.length : Int)) = true := decide_eq_true (by omega)
              have j2 : decide (j < m.length) = true := decide_eq_true hjl
              have j3 : (j : Int) < (m.length : Int) := by omega
              have j4 : IntKind.i64.wrap ((j : Int) + 1) = (j : Int) + 1 := IntWalk.i64_in _ (by have := HMLN.out; have := HL.out; omega)
              have v0 : (0 : Int) ≤ (x : Int) := by omega
              have v1 : (x : Int) < (l.length : Int) := by have := HX.out; omega
              have v2 : decide (x < l.length) = true := decide_eq_true HX.out
              have HJ := hid hjl
              clear hjl hj
              go_wp2_with fail
              go_roundw
              case rel => exact ⟨j + 1, HJ.out, by go_num, hid (by rw [HTK.out, setsR_snoc]; exact stI HBG.out x n), hid (fun q hq => cell_set (HCG.out q hq) ⟨w1.heap.size, x, none⟩ _ HGG.out), hid (HBR.out.setCell (p := ⟨w1.heap.size, x, none⟩) (Nat.le_refl _) _)⟩
              case measure => simp [intOf]; have := HJ.out; omega
            · obtain rfl : j = m.length := by omega
              have j1 : decide ((m.length : Int) < (m.length : Int)) = false := decide_eq_false (by omega)
              rw [List.take_length] at HBG
              clear hjl hj
              go_wp2_with fail
              go_roundw
              case rel => exact ⟨k + 1, HLT.out, by go_num, by rw [HZ.out], hid (by rw [HZ.out]; exact HBG.out), HBR⟩
              case measure => simp [intOf]; have := HLT.out; omega
        · obtain rfl : k = l.length := by omega
          have hk1 : decide ((l.length : Int) < (l.length : Int)) = false := decide_eq_false (by omega)
          clear hlt hk
          go_wp2_with fail
          refine HP.out (.slice (some ⟨w1.heap.size, 0, none⟩) l.length l.length) _ (ext_trans HB1.out HBR.out) ?_
          have hs : (splitR l).length = l.length := splitK_len l l.length
          rw [if_pos trivial]
          refine ⟨some ⟨w1.heap.size, 0, none⟩, l.length, by rw [hs], by rw [hs]; have := HL.out; omega, fun _ => ⟨w1.heap.size, 0, rfl, fun q hq => ?_⟩⟩
          rw [Nat.zero_add]
          exact HBG.out.cell q (arrI_get hq)
end Go.Proofs.YtcddlnmcjmhbcaaDoor
/-
  A box of sevE cells, laid and filled in any order among reads: what holds all along. Any program.
-/
namespace Go.Proofs.YtcddlnmcjmhbcaaDoor
set_option linter.unusedVariables false
set_option linter.unusedSimpArgs false
open Go Go.RowKit
def sevE (w : World) (b : Nat) (v0 v1 v2 v3 v4 v5 v6 : Value) : World := ((((((w.setCell ⟨b, 0, none⟩ v0).setCell ⟨b, 1, none⟩ v1).setCell ⟨b, 2, none⟩ v2).setCell ⟨b, 3, none⟩ v3).setCell ⟨b, 4, none⟩ v4).setCell ⟨b, 5, none⟩ v5).setCell ⟨b, 6, none⟩ v6
theorem setE7 {w : World} {b : Nat} {c0 c1 c2 c3 c4 c5 c6 : Value} {t : TypeId} (h : Blk w b #[c0, c1, c2, c3, c4, c5, c6] t) (v0 v1 v2 v3 v4 v5 v6 : Value) : Blk (sevE w b v0 v1 v2 v3 v4 v5 v6) b #[v0, v1, v2, v3, v4, v5, v6] t := by
  have := ((((((h.set 0 v0).set 1 v1).set 2 v2).set 3 v3).set 4 v4).set 5 v5).set 6 v6
  simpa [sevE] using this
theorem lowE7 {a w : World} {B b : Nat} (h : Below B a w) (hb : B ≤ b) (v0 v1 v2 v3 v4 v5 v6 : Value) : Below B a (sevE w b v0 v1 v2 v3 v4 v5 v6) :=
  ((((((h.setCell (p := ⟨b, 0, none⟩) hb v0).setCell (p := ⟨b, 1, none⟩) hb v1).setCell (p := ⟨b, 2, none⟩) hb v2).setCell (p := ⟨b, 3, none⟩) hb v3).setCell (p := ⟨b, 4, none⟩) hb v4).setCell (p := ⟨b, 5, none⟩) hb v5).setCell (p := ⟨b, 6, none⟩) hb v6
theorem arrE7 {cs : Array Value} (h : cs.size = 7) : ∃ c0 c1 c2 c3 c4 c5 c6, cs = #[c0, c1, c2, c3, c4, c5, c6] := by
  obtain ⟨l⟩ := cs
  match l, h with
  | [a, b, c, d, e, f, g], _ => exact ⟨a, b, c, d, e, f, g, rfl⟩
/-- n operations that yield what is known; an alloc; a store. -/
structure By (W0 : World) (n : Nat) (K : Nat → Value) (E : Array Value) (t : TypeId) (l : Nat → Bool) (v : Nat → Value) (w' : World) : Prop where
  mid : Below W0.heap.size W0 w'
  knw : ∀ i, i < n → l i = true → v i = K i
  als : l n = true → ∃ b cs, v n = .pointer (some ⟨b, 0, none⟩) ∧ W0.heap.size ≤ b ∧ Blk w' b cs t ∧ cs.size = 7 ∧ (l (n + 1) = true → cs = E)
  sts : l (n + 1) = true → l n = true
theorem By.ext {W0 : World} {n : Nat} {K : Nat → Value} {E : Array Value} {t : TypeId} {l l' : Nat → Bool} {v : Nat → Value} {w' : World} (h : ∀ i, i < n + 2 → l i = l' i) (H : By W0 n K E t l v w') : By W0 n K E t l' v w' where
  mid := H.mid
  knw c hc hl := H.knw c hc (by rw [h c (by omega)]; exact hl)
  als hl := by
    obtain ⟨b, cs, h1, h2, h3, h4, h5⟩ := H.als (by rw [h n (by omega)]; exact hl)
    exact ⟨b, cs, h1, h2, h3, h4, fun h6 => h5 (by rw [h (n + 1) (by omega)]; exact h6)⟩
  sts hl := by rw [← h n (by omega)]; exact H.sts (by rw [h (n + 1) (by omega)]; exact hl)
theorem By.start {W0 : World} {n : Nat} {K : Nat → Value} {E : Array Value} {t : TypeId} {v : Nat → Value} {w' : World} (h2 : Below W0.heap.size W0 w') : By W0 n K E t (fun _ => false) v w' where
  mid := h2
  knw c _ h := by cases h
  als h := by cases h
  sts h := by cases h
theorem By.get {W0 : World} {n : Nat} {K : Nat → Value} {E : Array Value} {t : TypeId} {l : Nat → Bool} {v : Nat → Value} {w' : World} (i : Nat) (hi : i < n) (H : By W0 n K E t l v w') : By W0 n K E t (doneL l i) (doneV v i (K i)) w' where
  mid := H.mid
  knw c hc hl := by
    unfold doneV
    unfold doneL at hl
    split
    · rename_i he; rw [he]
    · rename_i hne; rw [if_neg hne] at hl; exact H.knw c hc hl
  als hl := by
    unfold doneV
    unfold doneL at hl ⊢
    rw [if_neg (by omega)] at hl ⊢
    rw [if_neg (by omega)]
    exact H.als hl
  sts hl := by
    unfold doneL at hl ⊢
    rw [if_neg (by omega)] at hl ⊢
    exact H.sts hl
theorem By.alloc {W0 : World} {n : Nat} {K : Nat → Value} {E : Array Value} {Z : Array Value} {t : TypeId} {l : Nat → Bool} {v : Nat → Value} {w' : World} (hZ : Z.size = 7) (hl3 : l n = false) (H : By W0 n K E t l v w') :
    By W0 n K E t (doneL l n) (doneV v n (.pointer (some ⟨w'.heap.size, 0, none⟩))) (w'.alloc (.cells Z t)) := by
  have h0 : W0.heap.size ≤ w'.heap.size := H.mid.size
  have h6 : l (n + 1) = false := by
    cases h : l (n + 1) with
    | false => rfl
    | true => rw [H.sts h] at hl3; cases hl3
  exact {
    mid := ext_alloc H.mid _
    knw := fun c hc hl => by
      unfold doneV
      unfold doneL at hl
      rw [if_neg (by omega)] at hl ⊢
      exact H.knw c hc hl
    als := fun hl => by
      unfold doneV
      rw [if_pos rfl]
      refine ⟨_, Z, rfl, h0, Blk.new _ _ _, hZ, fun h => ?_⟩
      unfold doneL at h
      rw [if_neg (by omega)] at h
      rw [h6] at h; cases h
    sts := fun hl => by
      unfold doneL at hl ⊢
      rw [if_pos rfl] }
theorem By.store {W0 : World} {n : Nat} {K : Nat → Value} {E : Array Value} {v0 v1 v2 v3 v4 v5 v6 x : Value} {t : TypeId} {l : Nat → Bool} {v : Nat → Value} {w' : World} (b : Nat) (hE : E = #[v0, v1, v2, v3, v4, v5, v6]) (hl3 : l n = true) (hv : v n = .pointer (some ⟨b, 0, none⟩)) (H : By W0 n K E t l v w') :
    By W0 n K E t (doneL l (n + 1)) (doneV v (n + 1) x) (sevE w' b v0 v1 v2 v3 v4 v5 v6) := by
  obtain ⟨b', cs, h1, h2, h3, h4, -⟩ := H.als hl3
  rw [hv] at h1
  injection h1 with h1
  injection h1 with h1
  injection h1 with h1
  subst h1
  exact {
    mid := lowE7 H.mid h2 _ _ _ _ _ _ _
    knw := fun c hc hl => by
      unfold doneV
      unfold doneL at hl
      rw [if_neg (by omega)] at hl ⊢
      exact H.knw c hc hl
    als := fun hl => by
      unfold doneV
      rw [if_neg (by omega)]
      obtain ⟨c0, c1, c2, c3, c4, c5, c6, rfl⟩ := arrE7 h4
      exact ⟨b, _, hv, h2, setE7 h3 _ _ _ _ _ _ _, rfl, fun _ => hE.symm⟩
    sts := fun hl => by
      unfold doneL
      rw [if_neg (by omega)]; exact hl3 }
end Go.Proofs.YtcddlnmcjmhbcaaDoor
