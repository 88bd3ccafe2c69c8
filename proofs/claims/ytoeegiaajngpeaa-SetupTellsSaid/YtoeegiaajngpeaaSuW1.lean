/-
  Walks: the guards of seesawlaw06: sides, parts.
-/
import Derived.Test.YtoeegiaajngpeaaCoMy
namespace Go.Proofs.Ytoeegiaajngpeaa
set_option linter.unusedVariables false
set_option linter.unusedSimpArgs false
set_option linter.unusedVariables false
open Go Go.RowKit
def SidesR (e : Ex) (n : Int) (q : Bool) : Prop := 0 ≤ n ∧ n ≤ 1000 ∧ (q = false → n = (sizeE e : Nat))
def SidesP (e : Ex) (w : World) (e' : Ending) (w' : World) : Prop := ∃ (n : Int) (q : Bool), e' = .returned (.tuple #[.int .i64 n, .bool q]) ∧ SidesR e n q ∧ Below w.heap.size w w'
set_option maxRecDepth 100000 in
set_option maxHeartbeats 4000000 in
theorem sides_any (s : Nat) : ∀ (e : Ex) (w : World) (v0 v1 v2 : Value) (d : Int), sizeE e ≤ s → RdEx w e v0 v1 v2 → 0 ≤ d →
    Calls Try.prog 40 #[.agg #[v0, v1, v2], .int .i64 d] w (SidesP e w) := by
  induction s with
  | zero => intro e w v0 v1 v2 d h; have := sizeE_pos e; omega
  | succ s ih =>
  intro e w v0 v1 v2 d hs hr hd0
  cases e with | mk op n args =>
  have HEX : Hid (sizeE (.mk op n args) = 1 + sizeL args) := hid rfl
  unfold RdEx at hr
  obtain ⟨rfl, rfl, -, -, a, cap, rfl, hlen, hx⟩ := hr
  have IH := hid ih; clear ih
  have HS := hid (show 1 + sizeL args ≤ s + 1 by rw [← HEX.out]; exact hs); clear hs
  have HX := hid hx; clear hx
  have HLN := hid hlen
  have HD0 := hid hd0
  by_cases h1 : 20 < d
  · have k1 : decide (20 < d) = true := decide_eq_true h1
    clear hd0
    go_enter Try.func40, Try.ntmps40
    go_wp2_with fail
    go_ret2
    exact ⟨0, true, rfl, ⟨by omega, by omega, fun h => by cases h⟩, ext_alloc (ext_refl _) _⟩
  have k1 : decide (20 < d) = false := decide_eq_false h1
  by_cases h2 : 10 < args.length
  · have k2 : decide (10 < args.length) = true := decide_eq_true h2
    have k2i : decide (10 < (args.length : Int)) = true := decide_eq_true (by omega)
    clear hd0
    go_enter Try.func40, Try.ntmps40
    go_wp2_with fail
    go_ret2
    exact ⟨0, true, rfl, ⟨by omega, by omega, fun h => by cases h⟩, ext_alloc (ext_refl _) _⟩
  have k2 : decide (10 < args.length) = false := decide_eq_false h2
  have k2i : decide (10 < (args.length : Int)) = false := decide_eq_false (by omega)
  have hw : IntKind.i64.wrap (d + 1) = d + 1 := IntWalk.i64_in _ (by omega)
  have HD1 : Hid (0 ≤ d + 1) := hid (by omega)
  clear hd0 h1 h2
  go_enter Try.func40, Try.ntmps40
  go_wp2_with fail
  go_loopw [6, 7] (fun n i wr => ∃ k : Nat, k ≤ args.length ∧ i = .int .i64 k ∧ n = .int .i64 (1 + sizeL (args.take k) : Nat) ∧ Hid (1 + sizeL (args.take k) ≤ 1000) ∧ wr.cell? ⟨w.heap.size, 2, none⟩ = some (.slice a args.length cap) ∧ Below w.heap.size w wr) (fun _ i _ => args.length - (intOf i).toNat)
  case atStart => exact ⟨0, Nat.zero_le _, rfl, by simp [sizeL], hid (by simp [sizeL]), by simp, ext_alloc (ext_refl _) _⟩
  case round =>
    obtain ⟨k, hk, rfl, rfl, HM, hcb, hb⟩ := hrel
    by_cases hlt : k < args.length
    · obtain ⟨b, off, rfl, hrd⟩ := HX.out (by intro h; subst h; simp at hlt)
      obtain ⟨a', cap', c0, c1, c2, hx⟩ := hrd.get' k hlt
      have d0 := later hb c0
      have d1 := later hb c1
      have d2 := later hb c2
      have hbl := lt_of_cell d0
      have HY := hid (hx.below hb)
      have hts := sizeL_take_succ args k hlt
      have hle := sizeL_get_le args k hlt
      have HTS : Hid (1 + sizeL (args.take (k + 1)) = (1 + sizeL (args.take k)) + sizeE args[k]) := hid (by rw [hts]; omega)
      have hb2 : sizeE args[k] ≤ s := by have := HS.out; omega
      have HB2 := hid hb2
      have HLT := hid hlt
      generalize args[k]'hlt = y at *
      clear hts hle
      generalize 1 + sizeL (args.take k) = m0 at *
      have j1 : decide ((k : Int) < (args.length : Int)) = true := by rw [decide_eq_true_iff]; omega
      have j1n : decide (k < args.length) = true := decide_eq_true hlt
      have hbw := hb
      have HB := hid hb
      clear hx c0 c1 c2 hrd hb2 hb
      go_wp2_with fail
      refine (IH.out y _ _ _ _ (d + 1) HB2.out HY.out HD1.out).mono ?_
      rintro e w1 ⟨n', q, rfl, ⟨hn0, hn1, hnq⟩, hb1⟩
      have hw1 : IntKind.i64.wrap ((m0 : Int) + n') = (m0 : Int) + n' := IntWalk.i64_in _ (by have := HM.out; omega)
      have HQ := hid hnq
      have HN := hid (And.intro hn0 hn1)
      have HB1 := hid (ext_trans HB.out hb1)
      have hcb1 := later hb1 hcb
      clear hnq hn0 hn1 hb1 hcb d0 d1 d2 HY hbw
      cases q with
      | true =>
        go_wp2_with fail
        go_ret2
        exact ⟨0, true, rfl, ⟨by omega, by omega, fun h => by cases h⟩, HB1.out⟩
      | false =>
        obtain rfl := HQ.out rfl
        by_cases hg : 1000 < m0 + sizeE y
        · have g1 : decide (1000 < (m0 : Int) + (sizeE y : Int)) = true := decide_eq_true (by omega)
          go_wp2_with fail
          go_ret2
          exact ⟨0, true, rfl, ⟨by omega, by omega, fun h => by cases h⟩, HB1.out⟩
        · have g1 : decide (1000 < (m0 : Int) + (sizeE y : Int)) = false := decide_eq_false (by omega)
          have hw2 : IntKind.i64.wrap ((k : Int) + 1) = (k : Int) + 1 := IntWalk.i64_in _ (by have := HLN.out; omega)
          have HG := hid hg
          clear hg
          go_wp2_with fail
          go_roundw
          case rel => exact ⟨k + 1, HLT.out, by go_num, by rw [HTS.out]; go_num, hid (by have := HG.out; have := HTS.out; omega), hcb1, HB1.out⟩
          case measure => have := HLT.out; simp [intOf]; omega
    · obtain rfl : k = args.length := by omega
      have j1 : decide ((args.length : Int) < (args.length : Int)) = false := by rw [decide_eq_false_iff_not]; omega
      go_wp2_with fail
      go_ret2
      refine ⟨_, false, rfl, ⟨by omega, ?_, fun _ => ?_⟩, hb⟩
      · have := HM.out; rw [List.take_length] at *; omega
      · rw [HEX.out]; rw [List.take_length]
end Go.Proofs.Ytoeegiaajngpeaa
