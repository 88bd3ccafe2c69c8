/-
  Walks: event.Name, event.Kind.
-/
import Derived.Test.YtlbpollckiidlaaDoorShE
import Derived.Test.YtlbpollckiidlaaDoorEvT
namespace Go.Proofs.YtlbpollckiidlaaDoor
set_option linter.unusedVariables false
set_option linter.unusedSimpArgs false
open Go Go.RowKit
def strV (l : List UInt8) : Value := .string ⟨l.toArray⟩
/-- The table of Kinds holds their names. -/
def NamesAt (w : World) : Prop := ∀ k, k < 14 → w.cell? ⟨0, k * 2, none⟩ = some (strV (kindNames.getD k []))
theorem NamesAt.below {w w' : World} (hb : Below w.heap.size w w') (h : NamesAt w) : NamesAt w' := fun k hk => later hb (h k hk)
def nameT (k : Int) : List UInt8 := if inB k 1 13 = true then kindName k else []
theorem ba_eq (s : ByteArray) (l : List UInt8) (h : s.data.toList = l) : s = ⟨l.toArray⟩ := by
  obtain ⟨⟨d⟩⟩ := s
  simp only at h
  subst h
  rfl
theorem ba_inj {l m : List UInt8} (h : (⟨l.toArray⟩ : ByteArray) = ⟨m.toArray⟩) : l = m := by
  have := congrArg (fun b : ByteArray => b.data.toList) h
  simpa using this
set_option maxRecDepth 100000 in
set_option maxHeartbeats 4000000 in
theorem name_any (k : Int) (hk : 0 ≤ k ∧ k ≤ 255) (w : World) (hN : NamesAt w) : Calls Tryd.prog 17 #[.int .u8 k] w fun e w' => e = .returned (strV (nameT k)) ∧ w = w' := by
  have HK := hid (fun W => known_any k W)
  cases hb : inB k 1 13 with
  | false =>
    rw [hb] at HK
    have HR : Hid (strV (nameT k) = .string ⟨#[]⟩) := hid (by unfold nameT; rw [hb]; rfl)
    go_enter Tryd.func17, Tryd.ntmps17
    go_wp2_with fail
    refine (HK.out _).mono ?_
    rintro e' w1 ⟨rfl, rfl⟩
    go_wp2_with fail
    go_ret
    rw [HR.out]; exact ⟨rfl, rfl⟩
  | true =>
    rw [hb] at HK
    obtain ⟨n, rfl⟩ := Int.eq_ofNat_of_zero_le hk.1
    have hn : 1 ≤ n ∧ n ≤ 13 := by simp [inB] at hb; omega
    have c := hN n (by omega)
    have HR : Hid (strV (nameT (n : Int)) = strV (kindNames.getD n [])) := hid (by unfold nameT kindName; rw [hb]; rfl)
    have j1 : (0 : Int) ≤ (n : Int) := by omega
    have j2 : (n : Int) < 14 := by omega
    unfold strV at c
    clear hn hb hN hk
    go_enter Tryd.func17, Tryd.ntmps17
    go_wp2_with fail
    refine (HK.out _).mono ?_
    rintro e' w1 ⟨rfl, rfl⟩
    go_wp2_with fail
    go_ret
    rw [HR.out]; exact ⟨rfl, rfl⟩
/-- The Kind of a name. -/
def kindOf (l : List UInt8) : Option Nat := (List.range 14).find? fun k => decide (1 ≤ k) && decide (kindNames.getD k [] = l)
theorem kindOf_some {l : List UInt8} {k : Nat} (h1 : 1 ≤ k) (h2 : k < 14) (h : kindNames.getD k [] = l) : kindOf l = some k := by
  have key : ∀ a : Fin 14, 1 ≤ a.val → kindOf (kindNames.getD a.val []) = some a.val := by decide
  have := key ⟨k, h2⟩ h1
  rw [h] at this
  exact this
theorem kindOf_is {l : List UInt8} {k : Nat} (h : kindOf l = some k) : 1 ≤ k ∧ k ≤ 13 ∧ kindNames.getD k [] = l := by
  unfold kindOf at h
  have h1 := List.find?_some h
  have h2 := List.mem_range.1 (List.mem_of_find?_eq_some h)
  simp only [Bool.and_eq_true, decide_eq_true_eq] at h1
  exact ⟨h1.1, by omega, h1.2⟩
theorem kindOf_none {l : List UInt8} (h : ∀ k, 1 ≤ k → k < 14 → kindNames.getD k [] ≠ l) : kindOf l = none := by
  cases hk : kindOf l with
  | none => rfl
  | some k =>
    obtain ⟨h1, h2, h3⟩ := kindOf_is hk
    exact absurd h3 (h k h1 (by omega))
def kindV (o : Option Nat) : Value := .tuple #[.int .u8 ((o.getD 0 : Nat) : Int), .bool o.isSome]
set_option maxRecDepth 100000 in
set_option maxHeartbeats 4000000 in
theorem kind_any (l : List UInt8) (w : World) (hN : NamesAt w) : Calls Tryd.prog 16 #[.string ⟨l.toArray⟩] w fun e w' => e = .returned (kindV (kindOf l)) ∧ w = w' := by
  have HN := hid hN
  clear hN
  go_enter Tryd.func16, Tryd.ntmps16
  go_wp2_with fail
  go_loopw [4] (fun k wr => ∃ n : Nat, 1 ≤ n ∧ n ≤ 14 ∧ k = .int .u8 (n : Int) ∧ Hid (∀ j, 1 ≤ j → j < n → kindNames.getD j [] ≠ l) ∧ w = wr) (fun k _ => 14 - (intOf k).toNat)
  case atStart => exact ⟨1, by omega, by omega, rfl, hid (fun j h1 h2 => by omega), rfl⟩
  case round =>
    obtain ⟨n, h1, h2, rfl, HJ, rfl⟩ := hrel
    have H12 := hid (And.intro h1 h2)
    by_cases hlt : n ≤ 13
    · have j1 : decide ((n : Int) ≤ 13) = true := by rw [decide_eq_true_iff]; omega
      have j2 : (0 : Int) ≤ (n : Int) := by omega
      have j3 : (n : Int) < 14 := by omega
      have j4 : IntKind.u8.wrap ((n : Int) + 1) = (n : Int) + 1 := by simp only [IntKind.wrap, IntKind.bits, IntKind.signed]; simp; omega
      have c := HN.out n (by omega)
      obtain ⟨nm, hnm⟩ : ∃ nm, kindNames.getD n [] = nm := ⟨_, rfl⟩
      rw [hnm] at c
      unfold strV at c
      have HLT := hid hlt
      clear h1 h2 hlt
      by_cases heq : kindNames.getD n [] = l
      · have hq : (nm == l) = true := by rw [← hnm, heq]; simp
        have HR : Hid (kindV (kindOf l) = .tuple #[.int .u8 (n : Int), .bool true]) := hid (by rw [kindOf_some H12.out.1 (by have := HLT.out; omega) heq]; rfl)
        clear heq hnm
        go_wp2_with fail
        go_ret2
        rw [HR.out]; exact ⟨rfl, rfl⟩
      · have hq : (nm == l) = false := by rw [← hnm]; simpa using heq
        have HE := hid heq
        clear heq hnm
        go_wp2_with fail
        go_roundw
        case rel => exact ⟨n + 1, by omega, by have := HLT.out; omega, by simp, hid (fun j h1 h2 => by
          by_cases h : j = n
          · subst h; exact HE.out
          · exact HJ.out j h1 (by omega)), trivial⟩
        case measure => have := HLT.out; simp [intOf]; omega
    · obtain rfl : n = 14 := by omega
      have HR : Hid (kindV (kindOf l) = .tuple #[.int .u8 0, .bool false]) := hid (by rw [kindOf_none (fun k h1 h2 => HJ.out k h1 h2)]; rfl)
      clear hlt h1 h2
      go_wp2_with fail
      go_ret2
      rw [HR.out]; exact ⟨rfl, rfl⟩
end Go.Proofs.YtlbpollckiidlaaDoor
