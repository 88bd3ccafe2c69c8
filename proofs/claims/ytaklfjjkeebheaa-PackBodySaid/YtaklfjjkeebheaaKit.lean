/-
  More small lemmas on worlds, said of any program: what a cell holds behind a draw, an alloc, a store elsewhere. Nothing of the program.
-/
import Derived.Test.YtaklfjjkeebheaaBase
namespace Go.Proofs.Ytaklfjjkeebheaa
set_option linter.unusedVariables false
open Go Go.RowKit
theorem cell_drew {w : World} {p : Addr} {v : Option Value} (h : w.cell? p = v) : w.drew.cell? p = v := h
theorem cell_alloc {w : World} {b o : Nat} {v : Value} {x : Obj} (h : w.cell? ⟨b, o, none⟩ = some v) : (w.alloc x).cell? ⟨b, o, none⟩ = some v := later (ext_alloc (ext_refl _) _) h
theorem cell_store {w : World} {b o : Nat} {x : Value} {p : Addr} {v : Value} (hne : b ≠ p.block) (h : w.cell? ⟨b, o, none⟩ = some x) : (w.setCell p v).cell? ⟨b, o, none⟩ = some x := cell_set h p v hne
theorem set_set (w : World) (b o : Nat) (v v' : Value) : (w.setCell ⟨b, o, none⟩ v).setCell ⟨b, o, none⟩ v' = w.setCell ⟨b, o, none⟩ v' := by
  simp only [World.setCell]
  congr 1
  apply Array.ext (by simp)
  intro i h1 h2
  by_cases h : i = b
  · subst h
    simp only [Array.getElem_modify, if_true]
    generalize w.heap[i]'(by simpa using h1) = X
    cases X <;> simp
  · simp [Array.getElem_modify, Ne.symm h]
end Go.Proofs.Ytaklfjjkeebheaa
