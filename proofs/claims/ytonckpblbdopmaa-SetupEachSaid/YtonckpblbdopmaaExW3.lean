/-
  Walks: Whole, Count, below, May of expressions, and the document's.
-/
import Derived.Test.YtonckpblbdopmaaExW2
namespace Go.Proofs.Ytonckpblbdopmaa
set_option linter.unusedVariables false
open Go Go.RowKit

set_option maxRecDepth 100000 in
set_option maxHeartbeats 4000000 in
theorem Whole_any (e : Ex) (w : World) (v0 v1 v2 : Value) (h : RdEx w e v0 v1 v2) :
    Calls Try.prog 135 #[.agg #[v0, v1, v2]] w fun e' w' => e' = .returned (.bool (wholeS 6 e)) ∧ Below w.heap.size w w' := by
  have H := hid (whole_any 6 (by decide) e (w.alloc (.cells #[v0, v1, v2] 50)) v0 v1 v2 (h.below (ext_alloc (ext_refl _) _)))
  obtain ⟨a, cap, rfl, rfl, rfl⟩ := h.shape
  clear h
  go_enter Try.func135, Try.ntmps135
  go_wp2_with fail
  refine H.out.mono ?_
  rintro e w1 ⟨rfl, hb1⟩
  go_wp2_with fail
  go_ret
  exact ⟨rfl, ext_trans (ext_alloc (ext_refl _) _) hb1⟩

set_option maxRecDepth 100000 in
set_option maxHeartbeats 4000000 in
theorem rWhole_any (e : Ex) (w : World) (v0 v1 v2 : Value) (h : RdEx w e v0 v1 v2) :
    Calls Try.prog 153 #[.agg #[v0, v1, v2]] w fun e' w' => e' = .returned (.bool (wholeS 6 e)) ∧ Below w.heap.size w w' := by
  have H := hid (rwhole_any 6 (by decide) e (w.alloc (.cells #[v0, v1, v2] 50)) v0 v1 v2 (h.below (ext_alloc (ext_refl _) _)))
  obtain ⟨a, cap, rfl, rfl, rfl⟩ := h.shape
  clear h
  go_enter Try.func153, Try.ntmps153
  go_wp2_with fail
  refine H.out.mono ?_
  rintro e w1 ⟨rfl, hb1⟩
  go_wp2_with fail
  go_ret
  exact ⟨rfl, ext_trans (ext_alloc (ext_refl _) _) hb1⟩

set_option maxRecDepth 100000 in
set_option maxHeartbeats 4000000 in
theorem count_any (s : Nat) : ∀ (e : Ex) (w : World) (v0 v1 v2 : Value), sizeE e ≤ s → RdEx w e v0 v1 v2 → sizeE e ≤ 1000000 →
    Calls Try.prog 134 #[.agg #[v0, v1, v2]] w fun e' w' => e' = .returned (.int .i64 (sizeE e)) ∧ Below w.heap.size w w' := by
  induction s with
  | zero => intro e w v0 v1 v2 h; have := sizeE_pos e; omega
  | succ s ih =>
  intro e w v0 v1 v2 hs hr hc
  cases e with | mk op n args =>
  unfold RdEx at hr
  obtain ⟨rfl, rfl, -, -, a, cap, rfl, hlen, hx⟩ := hr
  have IH := hid ih; clear ih
  simp only [sizeE] at hs hc ⊢
  have HS := hid hs; clear hs
  have HX := hid hx; clear hx
  go_enter Try.func134, Try.ntmps134
  go_wp2_with fail
  go_loopw [3, 9] (fun n i wr => ∃ k : Nat, k ≤ args.length ∧ i = .int .i64 k ∧ n = .int .i64 (1 + sizeL (args.take k) : Nat) ∧ Below w.heap.size w wr) (fun _ i _ => args.length - (intOf i).toNat)
  case atStart => exact ⟨0, Nat.zero_le _, rfl, by simp [sizeL], ext_alloc (ext_refl _) _⟩
  case round =>
    obtain ⟨k, hk, rfl, rfl, hb⟩ := hrel
    by_cases hlt : k < args.length
    · obtain ⟨b, off, rfl, hrd⟩ := HX.out (by intro h; subst h; simp at hlt)
      obtain ⟨a', cap', c0, c1, c2, hx⟩ := hrd.get' k hlt
      have d0 := later hb c0
      have d1 := later hb c1
      have d2 := later hb c2
      have hbl := lt_of_cell d0
      have HY := hid (hx.below (ext_alloc hb (.cells #[.int .u8 args[k].op, .int .i64 args[k].n, .slice a' args[k].args.length cap'] 50)))
      have hle := sizeL_get_le args k hlt
      have hts := sizeL_take_succ args k hlt
      have htl := sizeL_take_le args (k+1)
      have HTS := hid hts
      have hb1 : sizeL (List.take k args) + sizeE args[k] ≤ 1000000 := by omega
      have hb2 : sizeE args[k] ≤ s := by have := HS.out; omega
      have hb3 : sizeE args[k] ≤ 1000000 := by omega
      clear hx hts htl hle hc c0 c1 c2 hrd
      go_wp2_with fail
      refine (IH.out args[k] _ _ _ _ hb2 HY.out hb3).mono ?_
      rintro e w1 ⟨rfl, hb1⟩
      go_wp2_with fail
      go_roundw
      case rel => exact ⟨k + 1, hlt, by go_num, by rw [HTS.out]; go_num, ext_trans (ext_alloc hb _) hb1⟩
      case measure => simp [intOf]; omega
    · obtain rfl : k = args.length := by omega
      go_wp2_with fail
      go_ret
      exact ⟨by simp, hb⟩

set_option maxRecDepth 100000 in
set_option maxHeartbeats 4000000 in
theorem rcount_any (s : Nat) : ∀ (e : Ex) (w : World) (v0 v1 v2 : Value), sizeE e ≤ s → RdEx w e v0 v1 v2 → sizeE e ≤ 1000000 →
    Calls Try.prog 152 #[.agg #[v0, v1, v2]] w fun e' w' => e' = .returned (.int .i64 (sizeE e)) ∧ Below w.heap.size w w' := by
  induction s with
  | zero => intro e w v0 v1 v2 h; have := sizeE_pos e; omega
  | succ s ih =>
  intro e w v0 v1 v2 hs hr hc
  cases e with | mk op n args =>
  unfold RdEx at hr
  obtain ⟨rfl, rfl, -, -, a, cap, rfl, hlen, hx⟩ := hr
  have IH := hid ih; clear ih
  simp only [sizeE] at hs hc ⊢
  have HS := hid hs; clear hs
  have HX := hid hx; clear hx
  go_enter Try.func152, Try.ntmps152
  go_wp2_with fail
  go_loopw [3, 4] (fun n i wr => ∃ k : Nat, k ≤ args.length ∧ i = .int .i64 k ∧ n = .int .i64 (1 + sizeL (args.take k) : Nat) ∧ wr.cell? ⟨w.heap.size, 2, none⟩ = some (.slice a args.length cap) ∧ Below w.heap.size w wr) (fun _ i _ => args.length - (intOf i).toNat)
  case atStart => exact ⟨0, Nat.zero_le _, rfl, by simp [sizeL], by simp, ext_alloc (ext_refl _) _⟩
  case round =>
    obtain ⟨k, hk, rfl, rfl, hcb, hb⟩ := hrel
    by_cases hlt : k < args.length
    · obtain ⟨b, off, rfl, hrd⟩ := HX.out (by intro h; subst h; simp at hlt)
      obtain ⟨a', cap', c0, c1, c2, hx⟩ := hrd.get' k hlt
      have d0 := later hb c0
      have d1 := later hb c1
      have d2 := later hb c2
      have HY := hid (hx.below hb)
      have hle := sizeL_get_le args k hlt
      have hts := sizeL_take_succ args k hlt
      have htl := sizeL_take_le args (k+1)
      have HTS := hid hts
      have hb1 : sizeL (List.take k args) + sizeE args[k] ≤ 1000000 := by omega
      have hb2 : sizeE args[k] ≤ s := by have := HS.out; omega
      have hb3 : sizeE args[k] ≤ 1000000 := by omega
      clear hx hts htl hle hc c0 c1 c2 hrd
      go_wp2_with fail
      refine (IH.out args[k] _ _ _ _ hb2 HY.out hb3).mono ?_
      rintro e w1 ⟨rfl, hb1⟩
      go_wp2_with fail
      go_roundw
      case rel => exact ⟨k + 1, hlt, by go_num, by rw [HTS.out]; go_num, later hb1 hcb, ext_trans hb hb1⟩
      case measure => simp [intOf]; omega
    · obtain rfl : k = args.length := by omega
      go_wp2_with fail
      go_ret
      exact ⟨by simp, hb⟩
end Go.Proofs.Ytonckpblbdopmaa
