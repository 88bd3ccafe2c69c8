/-
  Same of expressions, walked: expr.Same (by slices.EqualFunc) and the document's.
-/
import Derived.Test.YtoeegiaajngpeaaExOpP
import Derived.Test.YtoeegiaajngpeaaSuC
import Derived.Deep.RegionHeld3
namespace Go.Proofs.Ytoeegiaajngpeaa
set_option linter.unusedVariables false
open Go Go.RowKit

theorem take_eq_succ {l l' : List Ex} {k : Nat} (h : k < l.length) (h' : k < l'.length) (ht : l.take k = l'.take k) (he : l[k] = l'[k]) : l.take (k + 1) = l'.take (k + 1) := by
  rw [List.take_add_one, List.take_add_one, ht, List.getElem?_eq_getElem h, List.getElem?_eq_getElem h', he]

set_option maxRecDepth 100000 in
set_option maxHeartbeats 4000000 in
theorem equal_any (l l' : List Ex) (w : World) (a a' : Option Addr) (cap cap' : Nat) (hlen : l.length ≤ 9223372036854775807) (hlen' : l'.length ≤ 9223372036854775807)
    (hx : l ≠ [] → ∃ b off, a = some ⟨b, off, none⟩ ∧ RdExs w b off l) (hx' : l' ≠ [] → ∃ b off, a' = some ⟨b, off, none⟩ ∧ RdExs w b off l')
    (hp : ∀ k (h : k < l.length) (h' : k < l'.length) w' v0 v1 v2 u0 u1 u2, Below w.heap.size w w' → RdEx w' l[k] v0 v1 v2 → RdEx w' l'[k] u0 u1 u2 → ∀ r, (l[k] = l'[k] ↔ r = true) →
      Calls Try.prog 61 #[.agg #[v0, v1, v2], .agg #[u0, u1, u2]] w' fun e' w'' => e' = .returned (.bool r) ∧ Below w'.heap.size w' w'') :
    ∀ r, (l = l' ↔ r = true) → Calls Try.prog 68 #[.slice a l.length cap, .slice a' l'.length cap', .func (.func 61) #[] #[]] w
      fun e' w' => e' = .returned (.bool r) ∧ Below w.heap.size w w' := by
  intro r hr
  have HX := hid hx; clear hx
  have HX' := hid hx'; clear hx'
  have HP := hid hp; clear hp
  by_cases hll : l.length = l'.length
  · have HR := hid hr; clear hr
    rw [← hll]
    have HLL := hid hll; clear hll
    go_enter Try.func68, Try.ntmps68
    go_wp2_with fail
    go_loopw [17] (fun i wr => ∃ k : Nat, k ≤ l.length ∧ i = .int .i64 k ∧ Hid (l.take k = l'.take k) ∧ Below w.heap.size w wr) (fun i _ => l.length - (intOf i).toNat)
    case atStart => exact ⟨0, Nat.zero_le _, rfl, rfl, ext_refl _⟩
    case round =>
      obtain ⟨k, hk, rfl, HF, hb⟩ := hrel
      by_cases hlt : k < l.length
      · have hlt' : k < l'.length := by have := HLL.out; omega
        obtain ⟨b, off, rfl, hrd⟩ := HX.out (by intro h; subst h; simp at hlt)
        obtain ⟨b', off', rfl, hrd'⟩ := HX'.out (by intro h; subst h; simp at hlt')
        obtain ⟨a1, cap1, c0, c1, c2, hx⟩ := hrd.get' k hlt
        obtain ⟨a2, cap2, d0, d1, d2, hy⟩ := hrd'.get' k hlt'
        have c0 := later hb c0
        have c1 := later hb c1
        have c2 := later hb c2
        have d0 := later hb d0
        have d1 := later hb d1
        have d2 := later hb d2
        have lc := lt_of_cell c0
        have ld := lt_of_cell d0
        have HY := hid (hx.below hb)
        have HZ := hid (hy.below hb)
        clear hx hy hrd hrd'
        by_cases heq : l[k] = l'[k]
        · have HQ := hid (take_eq_succ hlt hlt' HF.out heq)
          have hcall := fun w' v0 v1 v2 u0 u1 u2 h1 h2 h3 => HP.out k hlt hlt' w' v0 v1 v2 u0 u1 u2 h1 h2 h3 true (by simp [heq])
          have HCALL := hid hcall
          clear hcall heq
          go_wp2_with fail
          refine (HCALL.out _ _ _ _ _ _ _ (by repeat (first | assumption | exact ext_refl _ | refine ext_drew ?_ | refine ext_alloc ?_ _ | refine ext_trans ?_ (by assumption))) (HY.out.below (by repeat (first | assumption | exact ext_refl _ | refine ext_drew ?_ | refine ext_alloc ?_ _ | refine ext_trans ?_ (by assumption)))) (HZ.out.below (by repeat (first | assumption | exact ext_refl _ | refine ext_drew ?_ | refine ext_alloc ?_ _ | refine ext_trans ?_ (by assumption))))).mono ?_
          rintro e w1 ⟨rfl, hb1⟩
          go_wp2_with fail
          go_roundw
          case rel => exact ⟨k + 1, hlt, by go_num, HQ, by repeat (first | assumption | exact ext_refl _ | refine ext_drew ?_ | refine ext_alloc ?_ _ | refine ext_trans ?_ (by assumption))⟩
          case measure => simp [intOf]; omega
        · have hcall := fun w' v0 v1 v2 u0 u1 u2 h1 h2 h3 => HP.out k hlt hlt' w' v0 v1 v2 u0 u1 u2 h1 h2 h3 false (by simp [heq])
          have HCALL := hid hcall
          have HN := hid (show r = false by cases r; rfl; exact absurd (by have := HR.out.2 rfl; subst this; rfl) heq)
          clear hcall heq
          go_wp2_with fail
          refine (HCALL.out _ _ _ _ _ _ _ (by repeat (first | assumption | exact ext_refl _ | refine ext_drew ?_ | refine ext_alloc ?_ _ | refine ext_trans ?_ (by assumption))) (HY.out.below (by repeat (first | assumption | exact ext_refl _ | refine ext_drew ?_ | refine ext_alloc ?_ _ | refine ext_trans ?_ (by assumption)))) (HZ.out.below (by repeat (first | assumption | exact ext_refl _ | refine ext_drew ?_ | refine ext_alloc ?_ _ | refine ext_trans ?_ (by assumption))))).mono ?_
          rintro e w1 ⟨rfl, hb1⟩
          go_wp2_with fail
          go_ret
          exact ⟨ret_bool HN.out.symm, by repeat (first | assumption | exact ext_refl _ | refine ext_drew ?_ | refine ext_alloc ?_ _ | refine ext_trans ?_ (by assumption))⟩
      · obtain rfl : k = l.length := by omega
        go_wp2_with fail
        go_ret
        exact ⟨ret_bool (HR.out.1 (by have := HF.out; rw [List.take_length, HLL.out, List.take_length] at this; exact this)).symm, hb⟩
  · have HN := hid (show r = false by cases r; rfl; exact absurd (congrArg List.length (hr.2 rfl)) hll)
    have hq : ((l.length : Int) == (l'.length : Int)) = false := by rw [beq_eq_false_iff_ne]; omega
    clear hr
    go_enter Try.func68, Try.ntmps68
    go_wp2_with fail
    go_ret
    exact ⟨ret_bool HN.out.symm, ext_refl _⟩

set_option maxRecDepth 100000 in
set_option maxHeartbeats 4000000 in
theorem same_any (s : Nat) : ∀ (e d : Ex) (w : World) (v0 v1 v2 u0 u1 u2 : Value), sizeE e ≤ s → RdEx w e v0 v1 v2 → RdEx w d u0 u1 u2 → ∀ r, (e = d ↔ r = true) →
    Calls Try.prog 61 #[.agg #[v0, v1, v2], .agg #[u0, u1, u2]] w fun e' w' => e' = .returned (.bool r) ∧ Below w.heap.size w w' := by
  induction s with
  | zero => intro e d w v0 v1 v2 u0 u1 u2 h; have := sizeE_pos e; omega
  | succ s ih =>
  intro e d w v0 v1 v2 u0 u1 u2 hs hr hd r hrr
  cases e with | mk op n args =>
  cases d with | mk op' n' args' =>
  unfold RdEx at hr hd
  obtain ⟨rfl, rfl, -, -, a, cap, rfl, hlen, hx⟩ := hr
  obtain ⟨rfl, rfl, -, -, a', cap', rfl, hlen', hx'⟩ := hd
  simp only [sizeE] at hs
  simp only [Ex.mk.injEq] at hrr
  have hA := ext_alloc (ext_alloc (ext_refl w) (.cells #[.int .u8 op, .int .i64 n, .slice a args.length cap] 40)) (.cells #[.int .u8 op', .int .i64 n', .slice a' args'.length cap'] 40)
  by_cases h1 : op = op'
  · by_cases h2 : n = n'
    · have hq := equal_any args args' ((w.alloc (.cells #[.int .u8 op, .int .i64 n, .slice a args.length cap] 40)).alloc (.cells #[.int .u8 op', .int .i64 n', .slice a' args'.length cap'] 40)) a a' cap cap' hlen hlen'
        (fun hne => by obtain ⟨b, off, g1, g2⟩ := hx hne; exact ⟨b, off, g1, RdExs.below hA _ g2⟩) (fun hne => by obtain ⟨b, off, g1, g2⟩ := hx' hne; exact ⟨b, off, g1, RdExs.below hA _ g2⟩)
        (fun k h h' w' v0 v1 v2 u0 u1 u2 _ g1 g2 r hr => ih _ _ w' v0 v1 v2 u0 u1 u2 (by have := sizeL_get_le args k h; omega) g1 g2 r hr) r (by simpa [h1, h2] using hrr)
      have HQ := hid hq
      subst h1; subst h2
      clear hq hx hx' ih hrr
      cases r
      all_goals
        go_enter Try.func61, Try.ntmps61
        go_wp2_with fail
        refine HQ.out.mono ?_
        rintro e w1 ⟨rfl, hb1⟩
        go_wp2_with fail
        go_ret
        exact ⟨rfl, by repeat (first | assumption | exact ext_refl _ | refine ext_drew ?_ | refine ext_alloc ?_ _ | refine ext_trans ?_ (by assumption))⟩
    · have HN := hid (show r = false by cases r; rfl; exact absurd (hrr.2 rfl).2.1 h2)
      subst h1
      have hb2 : (n == n') = false := by rw [beq_eq_false_iff_ne]; exact h2
      clear hx hx' ih hrr
      go_enter Try.func61, Try.ntmps61
      go_wp2_with fail
      go_ret
      exact ⟨ret_bool HN.out.symm, hA⟩
  · have HN := hid (show r = false by cases r; rfl; exact absurd (hrr.2 rfl).1 h1)
    have hb2 : (op == op') = false := by rw [beq_eq_false_iff_ne]; exact h1
    clear hx hx' ih hrr
    go_enter Try.func61, Try.ntmps61
    go_wp2_with fail
    go_ret
    exact ⟨ret_bool HN.out.symm, hA⟩
end Go.Proofs.Ytoeegiaajngpeaa
