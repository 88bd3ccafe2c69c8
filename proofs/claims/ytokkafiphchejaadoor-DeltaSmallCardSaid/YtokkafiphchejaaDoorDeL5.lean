/-
  The writer's closures are as a line asks.
-/
import Derived.Test.YtokkafiphchejaaDoorDeL4
import Derived.Test.YtokkafiphchejaaDoorDeW4
namespace Go.Proofs.YtokkafiphchejaaDoor
set_option linter.unusedVariables false
set_option linter.unusedSimpArgs false
set_option linter.unusedVariables false
open Go Go.RowKit
def WAt (b : Nat) (s : List Nat) (W : World) : Prop := ∃ S : ByteArray, byt S = s ∧ Blk W b #[.string S] 9
def WPx (x : Int) : Prop := 0 ≤ x ∧ x ≤ 4398046511104
def WOk (j : Nat) (s : List Nat) : Prop := s.length + 10 * j ≤ 1000
set_option maxRecDepth 100000 in
set_option maxHeartbeats 4000000 in
theorem wbad_any (W : World) : Calls Tryd.prog 30 #[] W fun e' W' => e' = .returned (.tuple #[]) ∧ W' = W := by
  go_enter Tryd.func30, Tryd.ntmps30
  go_wp2_with fail
  go_end0
  exact ⟨rfl, rfl⟩
theorem wClOk (b : Nat) : ClOk wCl [b] (WAt b) WPx WOk 31 33 30 #[.pointer (some ⟨b, 0, none⟩)] #[.pointer (some ⟨b, 0, none⟩)] #[] where
  okm j s h := by unfold WOk at *; omega
  okn j s x m h := by
    unfold WOk at *
    show (s ++ putN x.toNat).length + 10 * j ≤ 1000
    have := putN_ten x.toNat
    rw [List.length_append]; omega
  en args W := by kernel_rfl
  ei args W := by kernel_rfl
  eb args W := by kernel_rfl
  keep s W W' h hk := by
    obtain ⟨S, h1, h2⟩ := h
    exact ⟨S, h1, by unfold Blk; rw [hk b (by simp)]; exact h2⟩
  num s x most W h ho hp hm := by
    obtain ⟨S, h1, h2⟩ := h
    unfold WPx at hp
    unfold WOk at ho
    obtain ⟨n, rfl⟩ := Int.eq_ofNat_of_zero_le hp.1
    refine (wnum_any n most S b W h2 (by omega) (by rw [← byt_len, h1]; omega)).mono fun e' W' hh => ?_
    obtain ⟨r, S', q1, q2, q3⟩ := hh
    exact ⟨r, ⟨S', by rw [q1, h1]; rfl, q2⟩, q3⟩
  nb s x most hp hm := hp
  int s x W h ho hx := by
    obtain ⟨S, h1, h2⟩ := h
    unfold WOk at ho
    refine (wint_any x S b W h2 hx (by rw [← byt_len, h1]; omega)).mono fun e' W' hh => ?_
    obtain ⟨r, S', q1, q2, q3⟩ := hh
    exact ⟨r, ⟨S', by rw [q1, h1]; rfl, q2⟩, q3⟩
  bad s W h := by
    refine (wbad_any W).mono fun e' W' hh => ?_
    obtain ⟨r, rfl⟩ := hh
    exact ⟨⟨_, r⟩, h, Turn.refl _ _⟩
end Go.Proofs.YtokkafiphchejaaDoor
