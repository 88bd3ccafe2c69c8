/-
  Walk: the document's answers for events (the package seesawref12): Name, Kind, Stripe, bare, May.
-/
import Derived.Test.YtlbpollckiidlaaDoorEvW6
import Derived.Test.YtlbpollckiidlaaDoorEvS
import Derived.Test.YtlbpollckiidlaaDoorEvJ
import Derived.Test.YtlbpollckiidlaaDoorReg5
namespace Go.Proofs.YtlbpollckiidlaaDoor
set_option linter.unusedVariables false
set_option linter.unusedSimpArgs false
open Go Go.RowKit
/-- The document's table of names stands. -/
def NamesR (w : World) : Prop := ∀ k, k < 14 → w.cell? ⟨1, k, none⟩ = some (strV (kindNames.getD k []))
theorem NamesR.below {w w' : World} (hb : Below w.heap.size w w') (h : NamesR w) : NamesR w' := fun k hk => later hb (h k hk)
set_option maxRecDepth 100000 in
set_option maxHeartbeats 4000000 in
theorem rname_any (k : Int) (hk : 0 ≤ k ∧ k ≤ 255) (w : World) (hN : NamesR w) : Calls Tryd.prog 22 #[.int .u8 k] w fun e w' => e = .returned (strV (nameT k)) ∧ w = w' := by
  obtain ⟨n, rfl⟩ := Int.eq_ofNat_of_zero_le hk.1
  by_cases h : n ≤ 13
  · have c := hN n (by omega)
    have HR : Hid (strV (nameT (n : Int)) = strV (kindNames.getD n [])) := hid (by
      unfold nameT kindName
      by_cases h0 : n = 0
      · subst h0; rfl
      · rw [if_pos (by simp [inB]; omega)]; rfl)
    have j0 : decide ((13 : Int) < (n : Int)) = false := decide_eq_false (by omega)
    have j1 : (0 : Int) ≤ (n : Int) := by omega
    have j2 : (n : Int) < 14 := by omega
    unfold strV at c
    clear hk hN h
    go_enter Tryd.func22, Tryd.ntmps22
    go_wp2_with fail
    go_ret
    rw [HR.out]; exact ⟨rfl, rfl⟩
  · have HR : Hid (strV (nameT (n : Int)) = .string ⟨#[]⟩) := hid (by
      unfold nameT
      rw [if_neg (by simp [inB]; omega)]; rfl)
    have j0 : decide ((13 : Int) < (n : Int)) = true := decide_eq_true (by omega)
    clear hk hN h
    go_enter Tryd.func22, Tryd.ntmps22
    go_wp2_with fail
    go_ret
    rw [HR.out]; exact ⟨rfl, rfl⟩
set_option maxRecDepth 100000 in
set_option maxHeartbeats 4000000 in
theorem rkind_any (l : List UInt8) (w : World) (hN : NamesR w) : Calls Tryd.prog 20 #[.string ⟨l.toArray⟩] w fun e w' => e = .returned (kindV (kindOf l)) ∧ w = w' := by
  have HN := hid hN
  clear hN
  go_enter Tryd.func20, Tryd.ntmps20
  go_wp2_with fail
  go_loopw [4] (fun k wr => ∃ n : Nat, 1 ≤ n ∧ n ≤ 14 ∧ k = .int .i64 (n : Int) ∧ Hid (∀ j, 1 ≤ j → j < n → kindNames.getD j [] ≠ l) ∧ w = wr) (fun k _ => 14 - (intOf k).toNat)
  case atStart => exact ⟨1, by omega, by omega, rfl, hid (fun j h1 h2 => by omega), rfl⟩
  case round =>
    obtain ⟨n, h1, h2, rfl, HJ, rfl⟩ := hrel
    have H12 := hid (And.intro h1 h2)
    by_cases hlt : n ≤ 13
    · have j1 : decide ((n : Int) < 14) = true := by rw [decide_eq_true_iff]; omega
      have j2 : (0 : Int) ≤ (n : Int) := by omega
      have j3 : (n : Int) < 14 := by omega
      have j4 : wrap64 ((n : Int) + 1) = (n : Int) + 1 := by unfold wrap64; omega
      have j5 : IntKind.u8.wrap (n : Int) = (n : Int) := by simp only [IntKind.wrap, IntKind.bits, IntKind.signed]; simp; omega
      have c := HN.out n (by omega)
      obtain ⟨nm, hnm⟩ : ∃ nm, kindNames.getD n [] = nm := ⟨_, rfl⟩
      rw [hnm] at c
      unfold strV at c
      have HLT := hid hlt
      clear h1 h2 hlt
      by_cases heq : kindNames.getD n [] = l
      · have hq : (nm == l) = true := by rw [← hnm, heq]; simp
        have HR : Hid (kindV (kindOf l) = .tuple #[.int .u8 (n : Int), .bool true]) := hid (by rw [kindOf_some H12.out.1 (by have := HLT.out; omega) heq]; rfl)
        clear heq hnm
        go_wp2_with fail
        go_ret2
        rw [HR.out]; exact ⟨rfl, rfl⟩
      · have hq : (nm == l) = false := by rw [← hnm]; simpa using heq
        have HE := hid heq
        clear heq hnm
        go_wp2_with fail
        go_roundw
        case rel => exact ⟨n + 1, by omega, by have := HLT.out; omega, by simp, hid (fun j h1 h2 => by
          by_cases h : j = n
          · subst h; exact HE.out
          · exact HJ.out j h1 (by omega)), trivial⟩
        case measure => have := HLT.out; simp [intOf]; omega
    · obtain rfl : n = 14 := by omega
      have HR : Hid (kindV (kindOf l) = .tuple #[.int .u8 0, .bool false]) := hid (by rw [kindOf_none (fun k h1 h2 => HJ.out k h1 h2)]; rfl)
      clear hlt h1 h2
      go_wp2_with fail
      go_ret2
      rw [HR.out]; exact ⟨rfl, rfl⟩
set_option maxRecDepth 100000 in
set_option maxHeartbeats 4000000 in
theorem rstripe_any (e : Ev) (S : Int) (w : World) (hSi : -9223372036854775808 ≤ S ∧ S ≤ 9223372036854775807) :
    Calls Tryd.prog 19 #[evA e, .int .i64 S] w (StripeP e S w) := by
  obtain ⟨kind, th, tx, at_, v, x, why⟩ := e
  unfold StripeP
  dsimp only [evA]
  generalize hr : stripeP ⟨kind, th, tx, at_, v, x, why⟩ S = r
  unfold stripeP at hr
  dsimp only at hr
  have HB : Hid (Below w.heap.size w (w.alloc (.cells #[.int .u8 kind, .int .i64 th, .int .i64 tx, .int .i64 at_, .int .i64 v, .int .i64 x, .int .u8 why] 23))) := hid (ext_alloc (ext_refl _) _)
  by_cases h1 : S < 1
  · rw [if_pos (Or.inl h1)] at hr
    subst hr
    have j1 : decide (S < 1) = true := decide_eq_true h1
    clear h1 hSi
    go_enter Tryd.func19, Tryd.ntmps19
    go_wp2_with fail
    go_ret2
    exact ⟨rfl, HB.out⟩
  have j1 : decide (S < 1) = false := decide_eq_false h1
  by_cases h2 : at_ < 0
  · rw [if_pos (Or.inr h2)] at hr
    subst hr
    have j2 : decide (at_ < 0) = true := decide_eq_true h2
    clear h1 h2 hSi
    go_enter Tryd.func19, Tryd.ntmps19
    go_wp2_with fail
    go_ret2
    exact ⟨rfl, HB.out⟩
  have j2 : decide (at_ < 0) = false := decide_eq_false h2
  rw [if_neg (by omega)] at hr
  have j4 : ¬ S = 0 := by omega
  by_cases h5 : kind ∈ stripeKinds
  · have hk : kind = 2 ∨ kind = 4 ∨ kind = 6 ∨ kind = 9 ∨ kind = 11 := by simpa [stripeKinds] using h5
    rw [if_neg (by omega), if_pos (Or.inl h5)] at hr
    subst hr
    clear h1 h2 h5 hSi
    rcases hk with rfl | rfl | rfl | rfl | rfl
    all_goals (
      go_enter Tryd.func19, Tryd.ntmps19
      go_wp2_with fail
      go_ret2
      exact ⟨rfl, HB.out⟩)
  by_cases h3 : kind = 3 ∨ kind = 8
  · rw [if_pos h3] at hr
    subst hr
    have j5 : wrap64 (at_.tmod S) = at_.tmod S := by
      have : 0 ≤ at_ := by omega
      rw [Int.tmod_eq_emod_of_nonneg this]
      have h4 := Int.emod_nonneg at_ (by omega : S ≠ 0)
      have h5 := Int.emod_lt_of_pos at_ (by omega : 0 < S)
      unfold wrap64
      omega
    clear h1 h2 h5 hSi
    rcases h3 with rfl | rfl
    all_goals (
      go_enter Tryd.func19, Tryd.ntmps19
      go_wp2_with fail
      go_ret2
      exact ⟨rfl, HB.out⟩)
  rw [if_neg h3] at hr
  by_cases h6 : kind = 10
  · subst h6
    by_cases h7 : why = 6
    · rw [if_neg (by simp [h5, h7])] at hr
      subst hr
      subst h7
      clear h1 h2 h5 h3 hSi
      go_enter Tryd.func19, Tryd.ntmps19
      go_wp2_with fail
      go_ret2
      exact ⟨rfl, HB.out⟩
    · rw [if_pos (Or.inr ⟨rfl, h7⟩)] at hr
      subst hr
      have j6 : (why == 6) = false := beq_eq_false_iff_ne.2 h7
      clear h1 h2 h5 h3 h7 hSi
      go_enter Tryd.func19, Tryd.ntmps19
      go_wp2_with fail
      go_ret2
      exact ⟨rfl, HB.out⟩
  · rw [if_neg (by simp [h5, h6])] at hr
    subst hr
    have hk : ¬ (kind = 2 ∨ kind = 4 ∨ kind = 6 ∨ kind = 9 ∨ kind = 11) := fun h => h5 (by simpa [stripeKinds] using h)
    have k2 : (kind == 2) = false := beq_eq_false_iff_ne.2 (by omega)
    have k3 : (kind == 3) = false := beq_eq_false_iff_ne.2 (by omega)
    have k4 : (kind == 4) = false := beq_eq_false_iff_ne.2 (by omega)
    have k6 : (kind == 6) = false := beq_eq_false_iff_ne.2 (by omega)
    have k8 : (kind == 8) = false := beq_eq_false_iff_ne.2 (by omega)
    have k9 : (kind == 9) = false := beq_eq_false_iff_ne.2 (by omega)
    have k10 : (kind == 10) = false := beq_eq_false_iff_ne.2 (by omega)
    have k11 : (kind == 11) = false := beq_eq_false_iff_ne.2 (by omega)
    clear h1 h2 h5 h3 h6 hk hSi
    go_enter Tryd.func19, Tryd.ntmps19
    go_wp2_with fail
    go_ret2
    exact ⟨rfl, HB.out⟩
end Go.Proofs.YtlbpollckiidlaaDoor
