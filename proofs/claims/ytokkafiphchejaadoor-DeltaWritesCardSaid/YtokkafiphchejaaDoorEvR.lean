/-
  Walk: the document's names of Kinds (seesawref12.Name): of EvR what the checker wants.
-/
import Derived.Test.YtokkafiphchejaaDoorShE
import Derived.Test.YtokkafiphchejaaDoorKit
import Derived.Test.YtokkafiphchejaaDoorReg5
import Derived.Deep.CutBlock
namespace Go.Proofs.YtokkafiphchejaaDoor
set_option linter.unusedVariables false
set_option linter.unusedSimpArgs false
open Go Go.RowKit
theorem set7 {w : World} {b : Nat} {c0 c1 c2 c3 c4 c5 c6 : Value} {t : TypeId} (h : Blk w b #[c0, c1, c2, c3, c4, c5, c6] t) (v0 v1 v2 v3 v4 v5 v6 : Value) : Blk (((((((w.setCell ⟨b, 0, none⟩ v0).setCell ⟨b, 1, none⟩ v1).setCell ⟨b, 2, none⟩ v2).setCell ⟨b, 3, none⟩ v3).setCell ⟨b, 4, none⟩ v4).setCell ⟨b, 5, none⟩ v5).setCell ⟨b, 6, none⟩ v6) b #[v0, v1, v2, v3, v4, v5, v6] t := by
  have := ((((((h.set 0 v0).set 1 v1).set 2 v2).set 3 v3).set 4 v4).set 5 v5).set 6 v6
  simpa using this
theorem low7 {a w : World} {B b : Nat} (h : Below B a w) (hb : B ≤ b) (v0 v1 v2 v3 v4 v5 v6 : Value) : Below B a (((((((w.setCell ⟨b, 0, none⟩ v0).setCell ⟨b, 1, none⟩ v1).setCell ⟨b, 2, none⟩ v2).setCell ⟨b, 3, none⟩ v3).setCell ⟨b, 4, none⟩ v4).setCell ⟨b, 5, none⟩ v5).setCell ⟨b, 6, none⟩ v6) :=
  ((((((h.setCell (p := ⟨b, 0, none⟩) hb v0).setCell (p := ⟨b, 1, none⟩) hb v1).setCell (p := ⟨b, 2, none⟩) hb v2).setCell (p := ⟨b, 3, none⟩) hb v3).setCell (p := ⟨b, 4, none⟩) hb v4).setCell (p := ⟨b, 5, none⟩) hb v5).setCell (p := ⟨b, 6, none⟩) hb v6
def strV (l : List UInt8) : Value := .string ⟨l.toArray⟩
def kindNames : List (List UInt8) := [[], [98, 101, 103, 105, 110], [108, 111, 111, 107], [108, 111, 97, 100], [108, 111, 99, 107], [98, 117, 109, 112], [99, 104, 101, 99, 107], [99, 111, 109, 109, 105, 116], [115, 116, 111, 114, 101], [102, 114, 101, 101], [97, 98, 111, 114, 116], [117, 110, 100, 111], [119, 97, 105, 116], [119, 97, 107, 101]]
def kindName (k : Int) : List UInt8 := kindNames.getD k.toNat []
def nameT (k : Int) : List UInt8 := if inB k 1 13 = true then kindName k else []
/-- The document's table of names stands. -/
def NamesR (w : World) : Prop := ∀ k, k < 14 → w.cell? ⟨1, k, none⟩ = some (strV (kindNames.getD k []))
theorem NamesR.below {w w' : World} (hb : Below w.heap.size w w') (h : NamesR w) : NamesR w' := fun k hk => later hb (h k hk)
set_option maxRecDepth 100000 in
set_option maxHeartbeats 4000000 in
theorem rname_any (k : Int) (hk : 0 ≤ k ∧ k ≤ 255) (w : World) (hN : NamesR w) : Calls Tryd.prog 76 #[.int .u8 k] w fun e w' => e = .returned (strV (nameT k)) ∧ w = w' := by
  obtain ⟨n, rfl⟩ := Int.eq_ofNat_of_zero_le hk.1
  by_cases h : n ≤ 13
  · have c := hN n (by omega)
    have HR : Hid (strV (nameT (n : Int)) = strV (kindNames.getD n [])) := hid (by
      unfold nameT kindName
      by_cases h0 : n = 0
      · subst h0; rfl
      · rw [if_pos (by simp [inB]; omega)]; rfl)
    have j0 : decide ((13 : Int) < (n : Int)) = false := decide_eq_false (by omega)
    have j1 : (0 : Int) ≤ (n : Int) := by omega
    have j2 : (n : Int) < 14 := by omega
    unfold strV at c
    clear hk hN h
    go_enter Tryd.func76, Tryd.ntmps76
    go_wp2_with fail
    go_ret
    rw [HR.out]; exact ⟨rfl, rfl⟩
  · have HR : Hid (strV (nameT (n : Int)) = .string ⟨#[]⟩) := hid (by
      unfold nameT
      rw [if_neg (by simp [inB]; omega)]; rfl)
    have j0 : decide ((13 : Int) < (n : Int)) = true := decide_eq_true (by omega)
    clear hk hN h
    go_enter Tryd.func76, Tryd.ntmps76
    go_wp2_with fail
    go_ret
    rw [HR.out]; exact ⟨rfl, rfl⟩
end Go.Proofs.YtokkafiphchejaaDoor
