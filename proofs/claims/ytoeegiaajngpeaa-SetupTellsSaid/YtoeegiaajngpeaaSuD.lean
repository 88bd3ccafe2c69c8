/-
  Setups as data, and as they lie in memory.
-/
import Derived.Test.YtoeegiaajngpeaaSuW2
namespace Go.Proofs.Ytoeegiaajngpeaa
set_option linter.unusedVariables false
set_option linter.unusedSimpArgs false
set_option linter.unusedVariables false
open Go Go.RowKit
/-- Rows of slices: an element a cell. -/
def RdRow {α : Type} (R : World → α → Value → Prop) (w : World) (q off : Nat) : List α → Prop
  | [] => True
  | x :: xs => (∃ v, w.cell? ⟨q, off, none⟩ = some v ∧ R w x v) ∧ RdRow R w q (off + 1) xs
def RdSl {α : Type} (R : World → α → Value → Prop) (w : World) (l : List α) (v : Value) : Prop := ∃ p cap, v = .slice p l.length cap ∧ l.length ≤ 9223372036854775807 ∧ (l ≠ [] → ∃ q off, p = some ⟨q, off, none⟩ ∧ RdRow R w q off l)
theorem RdRow.get {α : Type} {R : World → α → Value → Prop} {w : World} : ∀ (l : List α) {q off}, RdRow R w q off l → ∀ k (h : k < l.length), ∃ v, w.cell? ⟨q, off + k, none⟩ = some v ∧ R w l[k] v
  | x :: xs, q, off, h, 0, _ => by unfold RdRow at h; exact h.1
  | x :: xs, q, off, h, k + 1, hk => by
    unfold RdRow at h
    have := RdRow.get xs h.2 k (by simpa using hk)
    rw [show off + (k + 1) = off + 1 + k by omega]
    exact this
theorem RdRow.below {α : Type} {R : World → α → Value → Prop} (hR : ∀ (w w' : World) (x : α) (v : Value), Below w.heap.size w w' → R w x v → R w' x v) {w w' : World} (hb : Below w.heap.size w w') : ∀ (l : List α) {q off}, RdRow R w q off l → RdRow R w' q off l
  | [], _, _, _ => trivial
  | x :: xs, q, off, h => by
    unfold RdRow at h ⊢
    obtain ⟨⟨v, h1, h2⟩, h3⟩ := h
    exact ⟨⟨v, later hb h1, hR _ _ _ _ hb h2⟩, RdRow.below hR hb xs h3⟩
theorem RdSl.below {α : Type} {R : World → α → Value → Prop} (hR : ∀ (w w' : World) (x : α) (v : Value), Below w.heap.size w w' → R w x v → R w' x v) {w w' : World} (hb : Below w.heap.size w w') {l : List α} {v : Value} (h : RdSl R w l v) : RdSl R w' l v := by
  obtain ⟨p, cap, h1, h2, h3⟩ := h
  exact ⟨p, cap, h1, h2, fun hne => by obtain ⟨q, off, h4, h5⟩ := h3 hne; exact ⟨q, off, h4, RdRow.below hR hb l h5⟩⟩
/-- A thread: a row of transactions; threads: a row of those. -/
def RdTh (w : World) (l : List (List St)) (v : Value) : Prop := RdSl RdTx w l v
def RdThs (w : World) (l : List (List (List St))) (v : Value) : Prop := RdSl RdTh w l v
theorem RdTh.below {w w' : World} {l : List (List St)} {v : Value} (hb : Below w.heap.size w w') (h : RdTh w l v) : RdTh w' l v := RdSl.below (R := RdTx) (fun _ _ _ _ hb h => h.below hb) hb h
theorem RdThs.below {w w' : World} {l : List (List (List St))} {v : Value} (hb : Below w.heap.size w w') (h : RdThs w l v) : RdThs w' l v := RdSl.below (R := RdTh) (fun _ _ _ _ hb h => RdTh.below hb h) hb h
def okTx (t : List St) : Prop := sizeT t ≤ 3000 ∧ ∀ s ∈ flatT t, okE s
def okTh (l : List (List St)) : Prop := l.length ≤ 20 ∧ ∀ t ∈ l, okTx t
theorem all_take_succ {α : Type} {P : α → Prop} {l : List α} {k : Nat} (hk : k < l.length) (h : ∀ x ∈ l.take k, P x) (hx : P l[k]) : ∀ x ∈ l.take (k + 1), P x := by
  intro x hm
  rw [List.take_succ_eq_append_getElem hk, List.mem_append, List.mem_singleton] at hm
  rcases hm with hm | rfl
  · exact h x hm
  · exact hx
def LargeP (ni : Nat) (ths : List (List (List St))) (w : World) (e' : Ending) (w' : World) : Prop :=
  ∃ q : Bool, e' = .returned (.bool q) ∧ (q = false → ni ≤ 100 ∧ ths.length ≤ 20 ∧ ∀ th ∈ ths, okTh th) ∧ Below w.heap.size w w'
set_option maxRecDepth 100000 in
set_option maxHeartbeats 4000000 in
theorem large_any (st ck tr : Int) (pi : Option Addr) (ni ci : Nat) (ths : List (List (List St))) (v : Value) (w : World) (hr : RdThs w ths v) (hni : ni ≤ 9223372036854775807) :
    Calls Try.prog 6 #[.agg #[.int .i64 st, .int .i64 ck, .int .i64 tr, .slice pi ni ci, v]] w (LargeP ni ths w) := by
  obtain ⟨a, cap, rfl, hlen, hx⟩ := hr
  have HX := hid hx; clear hx
  have HLN := hid hlen
  have HNI := hid hni
  by_cases h1 : 100 < ni
  · have k1 : decide (100 < (ni : Int)) = true := decide_eq_true (by omega)
    go_enter Try.func6, Try.ntmps6
    go_wp2_with fail
    go_ret
    exact ⟨true, rfl, (fun h => by cases h), ext_alloc (ext_refl _) _⟩
  have k1 : decide (100 < (ni : Int)) = false := decide_eq_false (by omega)
  have k1n : decide (100 < ni) = false := decide_eq_false h1
  by_cases h2 : 20 < ths.length
  · have k2 : decide (20 < (ths.length : Int)) = true := decide_eq_true (by omega)
    have k2n : decide (20 < ths.length) = true := decide_eq_true h2
    go_enter Try.func6, Try.ntmps6
    go_wp2_with fail
    go_ret
    exact ⟨true, rfl, (fun h => by cases h), ext_alloc (ext_refl _) _⟩
  have k2 : decide (20 < (ths.length : Int)) = false := decide_eq_false (by omega)
  have k2n : decide (20 < ths.length) = false := decide_eq_false h2
  have H1 := hid h1
  have H2 := hid h2
  clear h1 h2 hni
  go_enter Try.func6, Try.ntmps6
  go_wp2_with fail
  go_loopw [3, 4] (fun n i wr => ∃ k m : Nat, k ≤ ths.length ∧ i = .int .i64 k ∧ n = .int .i64 (m : Nat) ∧ Hid (m ≤ 4000 ∧ ∀ th ∈ ths.take k, okTh th) ∧ wr.cell? ⟨w.heap.size, 4, none⟩ = some (.slice a ths.length cap) ∧ Below w.heap.size w wr) (fun _ i _ => ths.length - (intOf i).toNat)
  case atStart => exact ⟨0, 0, Nat.zero_le _, rfl, rfl, hid ⟨by omega, fun s hs => by simp at hs⟩, by simp, ext_alloc (ext_refl _) _⟩
  case round =>
    obtain ⟨k, m, hk, rfl, rfl, HM, hcb, hb⟩ := hrel
    by_cases hlt : k < ths.length
    · obtain ⟨q, off, rfl, hrd⟩ := HX.out (by intro h; subst h; simp at hlt)
      obtain ⟨vt, e0, ht⟩ := RdRow.get ths hrd k hlt
      have HRT := hid (RdTh.below hb ht)
      obtain ⟨pt, ct, rfl, hlt', hxt⟩ := ht
      have d0 := later hb e0
      have HLT := hid hlt
      have HB := hid hb
      have HTS : Hid (okTh (ths[k]'hlt) → ∀ x ∈ ths.take (k + 1), okTh x) := hid (all_take_succ hlt HM.out.2)
      have j1 : decide ((k : Int) < (ths.length : Int)) = true := by rw [decide_eq_true_iff]; omega
      have j1n : decide (k < ths.length) = true := decide_eq_true hlt
      have j2 : (0 : Int) ≤ (k : Int) := by omega
      have j3 : IntKind.i64.wrap ((k : Int) + 1) = (k : Int) + 1 := IntWalk.i64_in _ (by omega)
      have HXT := hid hxt
      have HLT' := hid hlt'
      clear hrd e0 hb hxt hlt'
      generalize ths[k]'hlt = th at *
      by_cases h3 : 20 < th.length
      · have k3 : decide (20 < (th.length : Int)) = true := decide_eq_true (by omega)
        have k3n : decide (20 < th.length) = true := decide_eq_true h3
        have hf := HB.out
        go_wp2_with fail
        go_ret
        exact ⟨true, rfl, (fun h => by cases h), hf⟩
      have k3 : decide (20 < (th.length : Int)) = false := decide_eq_false (by omega)
      have k3n : decide (20 < th.length) = false := decide_eq_false h3
      have H3 := hid h3
      have HCB := hid hcb
      have HDD := hid d0
      have hbl := lt_of_cell d0
      go_wp2_with fail
      go_loopw [3, 5] (fun n i wr => ∃ j m : Nat, j ≤ th.length ∧ i = .int .i64 j ∧ n = .int .i64 (m : Nat) ∧ Hid (m ≤ 4000 ∧ ∀ x ∈ th.take j, okTx x) ∧ wr.cell? ⟨w.heap.size, 4, none⟩ = some (.slice (some ⟨q, off, none⟩) ths.length cap) ∧ wr.cell? ⟨q, off + k, none⟩ = some (.slice pt th.length ct) ∧ Below w.heap.size w wr ∧ Hid (RdTh wr th (.slice pt th.length ct))) (fun _ i _ => th.length - (intOf i).toNat)
      case atStart => exact ⟨0, m, Nat.zero_le _, rfl, rfl, hid ⟨HM.out.1, fun s hs => by simp at hs⟩, HCB.out, HDD.out, HB.out, HRT⟩
      case round =>
        clear hcb d0 hbl HCB HDD HB HRT HM
        rename_i wr0 wr
        obtain ⟨j, m, hj, rfl, rfl, HM, hcb, hdd, hb, HRT⟩ := hrel
        by_cases hlj : j < th.length
        · obtain ⟨pt', ct', hpt, -, hxt⟩ := HRT.out
          cases hpt
          obtain ⟨q', off', rfl, hrd'⟩ := hxt (by intro h; subst h; simp at hlj)
          obtain ⟨vx, e0', htx⟩ := RdRow.get th hrd' j hlj
          have HTX := hid htx
          obtain ⟨px, cx, rfl, -, -⟩ := htx
          have hbl := lt_of_cell hdd
          have hbl' := lt_of_cell e0'
          have HLJ := hid hlj
          have HB := hid hb
          have HTJ : Hid (okTx (th[j]'hlj) → ∀ x ∈ th.take (j + 1), okTx x) := hid (all_take_succ hlj HM.out.2)
          have i1 : decide ((j : Int) < (th.length : Int)) = true := by rw [decide_eq_true_iff]; omega
          have i1n : decide (j < th.length) = true := decide_eq_true hlj
          have i2 : (0 : Int) ≤ (j : Int) := by omega
          have i3 : IntKind.i64.wrap ((j : Int) + 1) = (j : Int) + 1 := IntWalk.i64_in _ (by have := HLT'.out; omega)
          have HCB := hid hcb
          have HDD := hid hdd
          clear hxt hrd' hb
          generalize th[j]'hlj = tx at *
          go_wp2_with fail
          refine (parts_any (sizeT tx + 1) tx _ _ 0 (Nat.lt_succ_self _) HTX.out (by omega)).mono ?_
          rintro e w1 ⟨n1, q1, rfl, h1, hb1⟩
          have HP := hid h1
          have s1 : IntKind.i64.wrap ((m : Int) + n1) = (m : Int) + n1 := IntWalk.i64_in _ (by have := HM.out.1; have := h1.1; have := h1.2.1; omega)
          have HB1 := hid (ext_trans HB.out hb1)
          have hcb1 := later hb1 hcb
          have hdd1 := later hb1 hdd
          have HRT1 := hid (RdTh.below hb1 HRT.out)
          clear h1 hb1 hcb hdd HRT e0' hbl hbl' HCB HDD
          cases q1 with
          | true =>
            have hf := HB1.out
            go_wp2_with fail
            go_ret
            exact ⟨true, rfl, (fun h => by cases h), hf⟩
          | false =>
            by_cases hg : 4000 < (m : Int) + n1
            · have g1 : decide (4000 < (m : Int) + n1) = true := decide_eq_true hg
              have hf := HB1.out
              clear hg
              go_wp2_with fail
              go_ret
              exact ⟨true, rfl, (fun h => by cases h), hf⟩
            · have g1 : decide (4000 < (m : Int) + n1) = false := decide_eq_false hg
              obtain ⟨m', hm'⟩ : ∃ m' : Nat, (m : Int) + n1 = (m' : Int) := ⟨((m : Int) + n1).toNat, by have := HP.out.1; omega⟩
              have HFJ : Hid (m' ≤ 4000 ∧ ∀ x ∈ th.take (j + 1), okTx x) := hid ⟨by omega, HTJ.out (by
                obtain ⟨u1, u2⟩ := HP.out.2.2 rfl
                have u3 := HP.out.2.1
                exact ⟨by omega, u2⟩)⟩
              have HMM := hid hm'
              clear hg hm'
              go_wp2_with fail
              go_roundw
              case rel => exact ⟨j + 1, m', HLJ.out, by go_num, by rw [HMM.out], HFJ, hcb1, hdd1, HB1.out, HRT1⟩
              case measure => have := HLJ.out; simp [intOf]; omega
        · obtain rfl : j = th.length := by omega
          have i1 : decide ((th.length : Int) < (th.length : Int)) = false := by rw [decide_eq_false_iff_not]; omega
          have hbl := lt_of_cell hdd
          have HB := hid hb
          have HF : Hid (∀ x ∈ ths.take (k + 1), okTh x) := hid (HTS.out ⟨by have := H3.out; omega, by have := HM.out.2; rwa [List.take_length] at this⟩)
          go_wp2_with fail
          go_roundw
          case rel => exact ⟨k + 1, m, HLT.out, by go_num, rfl, hid ⟨HM.out.1, HF.out⟩, hcb, HB.out⟩
          case measure => have := HLT.out; simp [intOf]; omega
    · obtain rfl : k = ths.length := by omega
      have j1 : decide ((ths.length : Int) < (ths.length : Int)) = false := by rw [decide_eq_false_iff_not]; omega
      go_wp2_with fail
      go_ret
      obtain ⟨f1, f2⟩ := HM.out
      rw [List.take_length] at f2
      exact ⟨false, rfl, fun _ => ⟨by have := H1.out; omega, by have := H2.out; omega, f2⟩, hb⟩
end Go.Proofs.Ytoeegiaajngpeaa
