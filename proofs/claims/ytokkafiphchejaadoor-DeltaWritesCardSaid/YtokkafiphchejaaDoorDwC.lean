/-
  Walks: a coder's copy, the document's copy of one: all 49 cells at once.
-/
import Derived.Test.YtokkafiphchejaaDoorDeL1
import Derived.Laws.Tables
import Derived.Laws.CopyOwn
import Derived.Laws.Rows
namespace Go.Proofs.YtokkafiphchejaaDoor
set_option linter.unusedVariables false
set_option linter.unusedSimpArgs false
set_option linter.unusedVariables false
open Go Go.RowKit
theorem cdrA_all (T V S : Int) (c : Cdr) : (cdrA T V S c).all (·.oneCell') = true := by kernel_rfl
set_option maxRecDepth 100000 in
set_option maxHeartbeats 4000000 in
theorem copy_any (T V S : Int) (c : Cdr) (C : Nat) (w : World) (h : Blk w C (cdrA T V S c) 74) : Calls Tryd.prog 16 #[.pointer (some ⟨C, 0, none⟩)] w fun e w' => e = .returned (.pointer (some ⟨w.heap.size, 0, none⟩)) ∧ Blk w' w.heap.size (cdrA T V S c) 74 ∧ Below w.heap.size w w' := by
  have hsz : (cdrA T V S c).size = 49 := rfl
  have hall := cdrA_all T V S c
  generalize cdrA T V S c = A at h hsz hall ⊢
  have HH := hid h
  have HSZ := hid hsz
  have HALL := hid hall
  obtain ⟨Q, hQ⟩ : ∃ Q : Ending → World → Prop, Q = fun e w' => e = .returned (.pointer (some ⟨w.heap.size, 0, none⟩)) ∧ Blk w' w.heap.size A 74 ∧ Below w.heap.size w w' := ⟨_, rfl⟩
  rw [← hQ]
  have HQ := hid hQ
  clear hQ h hsz hall
  go_enter Tryd.func16, Tryd.ntmps16
  go_wp2_with (first
    | (refine wpList_load_row rfl 74 (.tmp 7) rfl C rfl 74 A (0, 0) _ HH.out Tryd.underlying74 rfl (by rw [HSZ.out]; kernel_rfl) ?_)
    | (refine wpList_store_row rfl 74 (.tmp 3) (.tmp 8) rfl w.heap.size A rfl rfl 74 _ (Blk.new _ _ _) (by rw [HSZ.out]; kernel_rfl) (by rw [HSZ.out]; rfl) HALL.out ?_))
  rw [HQ.out]
  exact ⟨rfl, setRow_heap _ _ _ _ _ _ (Blk.new _ _ _), below_setRow (ext_alloc (ext_refl _) _) (Nat.le_refl _) _⟩
set_option maxRecDepth 100000 in
set_option maxHeartbeats 4000000 in
theorem rcopy_any (T V S : Int) (c : Cdr) (C : Nat) (w : World) (h : Blk w C (cdrA T V S c) 90) : Calls Tryd.prog 17 #[.pointer (some ⟨C, 0, none⟩)] w fun e w' => e = .returned (.pointer (some ⟨w.heap.size, 0, none⟩)) ∧ Blk w' w.heap.size (cdrA T V S c) 90 ∧ Below w.heap.size w w' := by
  have hsz : (cdrA T V S c).size = 49 := rfl
  have hall := cdrA_all T V S c
  generalize cdrA T V S c = A at h hsz hall ⊢
  have HH := hid h
  have HSZ := hid hsz
  have HALL := hid hall
  obtain ⟨Q, hQ⟩ : ∃ Q : Ending → World → Prop, Q = fun e w' => e = .returned (.pointer (some ⟨w.heap.size, 0, none⟩)) ∧ Blk w' w.heap.size A 90 ∧ Below w.heap.size w w' := ⟨_, rfl⟩
  rw [← hQ]
  have HQ := hid hQ
  clear hQ h hsz hall
  go_enter Tryd.func17, Tryd.ntmps17
  go_wp2_with (first
    | (refine wpList_load_row rfl 90 (.tmp 5) rfl C rfl 90 A (0, 0) _ HH.out Tryd.underlying90 rfl (by rw [HSZ.out]; kernel_rfl) ?_)
    | (refine wpList_store_row rfl 90 (.tmp 3) (.tmp 6) rfl w.heap.size A rfl rfl 90 _ (Blk.new _ _ _) (by rw [HSZ.out]; kernel_rfl) (by rw [HSZ.out]; rfl) HALL.out ?_))
  rw [HQ.out]
  exact ⟨rfl, setRow_heap _ _ _ _ _ _ (Blk.new _ _ _), below_setRow (ext_alloc (ext_refl _) _) (Nat.le_refl _) _⟩
end Go.Proofs.YtokkafiphchejaaDoor
