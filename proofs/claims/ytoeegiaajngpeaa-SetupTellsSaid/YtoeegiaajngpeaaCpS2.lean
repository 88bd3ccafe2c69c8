/-
  Same of expressions by the document, walked.
-/
import Derived.Test.YtoeegiaajngpeaaCpS1
namespace Go.Proofs.Ytoeegiaajngpeaa
set_option linter.unusedVariables false
open Go Go.RowKit

set_option maxRecDepth 100000 in
set_option maxHeartbeats 4000000 in
theorem rsame_any (s : Nat) : ∀ (e d : Ex) (w : World) (v0 v1 v2 u0 u1 u2 : Value), sizeE e ≤ s → RdEx w e v0 v1 v2 → RdEx w d u0 u1 u2 → ∀ r, (e = d ↔ r = true) →
    Calls Try.prog 52 #[.agg #[v0, v1, v2], .agg #[u0, u1, u2]] w fun e' w' => e' = .returned (.bool r) ∧ Below w.heap.size w w' := by
  induction s with
  | zero => intro e d w v0 v1 v2 u0 u1 u2 h; have := sizeE_pos e; omega
  | succ s ih =>
  intro e d w v0 v1 v2 u0 u1 u2 hs hr hd r hrr
  cases e with | mk op n args =>
  cases d with | mk op' n' args' =>
  unfold RdEx at hr hd
  obtain ⟨rfl, rfl, -, -, a, cap, rfl, hlen, hx⟩ := hr
  obtain ⟨rfl, rfl, -, -, a', cap', rfl, hlen', hx'⟩ := hd
  simp only [sizeE] at hs
  simp only [Ex.mk.injEq] at hrr
  have hA := ext_alloc (ext_alloc (ext_refl w) (.cells #[.int .u8 op, .int .i64 n, .slice a args.length cap] 40)) (.cells #[.int .u8 op', .int .i64 n', .slice a' args'.length cap'] 40)
  by_cases h1 : op = op'
  · by_cases h2 : n = n'
    · by_cases hll : args.length = args'.length
      · subst h1; subst h2
        have HR : Hid (args = args' ↔ r = true) := hid (by simpa using hrr)
        rw [← hll]
        rw [← hll] at hA
        have HLL := hid hll
        have HX := hid hx
        have HX' := hid hx'
        have IH := hid ih
        clear hll hx hx' ih hrr
        go_enter Try.func52, Try.ntmps52
        go_wp2_with fail
        go_loopw [5] (fun i wr => ∃ k : Nat, k ≤ args.length ∧ i = .int .i64 k ∧ Hid (args.take k = args'.take k) ∧ wr.cell? ⟨w.heap.size, 2, none⟩ = some (.slice a args.length cap) ∧ wr.cell? ⟨w.heap.size + 1, 2, none⟩ = some (.slice a' args.length cap') ∧ Below w.heap.size w wr) (fun i _ => args.length - (intOf i).toNat)
        case atStart => exact ⟨0, Nat.zero_le _, rfl, rfl, by simp, by simp, hA⟩
        case round =>
          obtain ⟨k, hk, rfl, HF, p0, p1, hb⟩ := hrel
          by_cases hlt : k < args.length
          · have hlt' : k < args'.length := by have := HLL.out; omega
            obtain ⟨b, off, rfl, hrd⟩ := HX.out (by intro h; subst h; simp at hlt)
            obtain ⟨b', off', rfl, hrd'⟩ := HX'.out (by intro h; subst h; simp at hlt')
            obtain ⟨a1, cap1, c0, c1, c2, hx⟩ := hrd.get' k hlt
            obtain ⟨a2, cap2, d0, d1, d2, hy⟩ := hrd'.get' k hlt'
            have c0 := later hb c0
            have c1 := later hb c1
            have c2 := later hb c2
            have d0 := later hb d0
            have d1 := later hb d1
            have d2 := later hb d2
            have hle := sizeL_get_le args k hlt
            have HY := hid (hx.below hb)
            have HZ := hid (hy.below hb)
            clear hx hy hrd hrd'
            by_cases heq : args[k] = args'[k]
            · have HQ := hid (take_eq_succ hlt hlt' HF.out heq)
              have HCALL := hid (IH.out args[k] args'[k] wr.drew _ _ _ _ _ _ (by omega) (HY.out.below (ext_drew (ext_refl _))) (HZ.out.below (ext_drew (ext_refl _))) true (by simp [heq]))
              clear heq hle
              go_wp2_with fail
              go_region_held3 (fun w' => w'.cell? ⟨w.heap.size, 2, none⟩ = some (.slice (some ⟨b, off, none⟩) args.length cap) ∧ w'.cell? ⟨w.heap.size + 1, 2, none⟩ = some (.slice (some ⟨b', off', none⟩) args.length cap') ∧
                  w'.cell? ⟨b, off + k * 3, none⟩ = some (.int .u8 args[k].op) ∧ w'.cell? ⟨b, off + k * 3 + 1, none⟩ = some (.int .i64 args[k].n) ∧ w'.cell? ⟨b, off + k * 3 + 2, none⟩ = some (.slice a1 args[k].args.length cap1) ∧
                  w'.cell? ⟨b', off' + k * 3, none⟩ = some (.int .u8 args'[k].op) ∧ w'.cell? ⟨b', off' + k * 3 + 1, none⟩ = some (.int .i64 args'[k].n) ∧ w'.cell? ⟨b', off' + k * 3 + 2, none⟩ = some (.slice a2 args'[k].args.length cap2))
                (first | go_keep | (go_split_ands; refine ⟨?_, ?_, ?_, ?_, ?_, ?_, ?_, ?_⟩ <;> exact later hb1 (by assumption)))
                (first | (go_at_call 52; refine HCALL.out.mono ?_; rintro e' w1 ⟨rfl, hb1⟩))
              have hb2 : Below wr.heap.size wr w1 := ext_trans (ext_drew (ext_refl _)) hb1
              go_wp2_with fail
              go_roundw
              case rel => exact ⟨k + 1, hlt, by go_num, HQ, later hb2 p0, later hb2 p1, ext_trans hb hb2⟩
              case measure => simp [intOf]; omega
            · have HCALL := hid (IH.out args[k] args'[k] wr.drew _ _ _ _ _ _ (by omega) (HY.out.below (ext_drew (ext_refl _))) (HZ.out.below (ext_drew (ext_refl _))) false (by simp [heq]))
              have HN := hid (show r = false by cases r; rfl; exact absurd (by have := HR.out.2 rfl; subst this; rfl) heq)
              clear heq hle
              go_wp2_with fail
              go_region_held3 (fun w' => w'.cell? ⟨w.heap.size, 2, none⟩ = some (.slice (some ⟨b, off, none⟩) args.length cap) ∧ w'.cell? ⟨w.heap.size + 1, 2, none⟩ = some (.slice (some ⟨b', off', none⟩) args.length cap') ∧
                  w'.cell? ⟨b, off + k * 3, none⟩ = some (.int .u8 args[k].op) ∧ w'.cell? ⟨b, off + k * 3 + 1, none⟩ = some (.int .i64 args[k].n) ∧ w'.cell? ⟨b, off + k * 3 + 2, none⟩ = some (.slice a1 args[k].args.length cap1) ∧
                  w'.cell? ⟨b', off' + k * 3, none⟩ = some (.int .u8 args'[k].op) ∧ w'.cell? ⟨b', off' + k * 3 + 1, none⟩ = some (.int .i64 args'[k].n) ∧ w'.cell? ⟨b', off' + k * 3 + 2, none⟩ = some (.slice a2 args'[k].args.length cap2))
                (first | go_keep | (go_split_ands; refine ⟨?_, ?_, ?_, ?_, ?_, ?_, ?_, ?_⟩ <;> exact later hb1 (by assumption)))
                (first | (go_at_call 52; refine HCALL.out.mono ?_; rintro e' w1 ⟨rfl, hb1⟩))
              have hb2 : Below wr.heap.size wr w1 := ext_trans (ext_drew (ext_refl _)) hb1
              go_wp2_with fail
              go_ret
              exact ⟨ret_bool HN.out.symm, ext_trans hb hb2⟩
          · obtain rfl : k = args.length := by omega
            go_wp2_with fail
            go_ret
            exact ⟨ret_bool (HR.out.1 (by have := HF.out; rw [List.take_length, HLL.out, List.take_length] at this; exact this)).symm, hb⟩
      · have HN := hid (show r = false by cases r; rfl; exact absurd (congrArg List.length (hrr.2 rfl).2.2) hll)
        subst h1; subst h2
        have hq : ((args.length : Int) == (args'.length : Int)) = false := by rw [beq_eq_false_iff_ne]; omega
        clear hx hx' ih hrr
        go_enter Try.func52, Try.ntmps52
        go_wp2_with fail
        go_ret
        exact ⟨ret_bool HN.out.symm, hA⟩
    · have HN := hid (show r = false by cases r; rfl; exact absurd (hrr.2 rfl).2.1 h2)
      subst h1
      have hb2 : (n == n') = false := by rw [beq_eq_false_iff_ne]; exact h2
      clear hx hx' ih hrr
      go_enter Try.func52, Try.ntmps52
      go_wp2_with fail
      go_ret
      exact ⟨ret_bool HN.out.symm, hA⟩
  · have HN := hid (show r = false by cases r; rfl; exact absurd (hrr.2 rfl).1 h1)
    have hb2 : (op == op') = false := by rw [beq_eq_false_iff_ne]; exact h1
    clear hx hx' ih hrr
    go_enter Try.func52, Try.ntmps52
    go_wp2_with fail
    go_ret
    exact ⟨ret_bool HN.out.symm, hA⟩
end Go.Proofs.Ytoeegiaajngpeaa
