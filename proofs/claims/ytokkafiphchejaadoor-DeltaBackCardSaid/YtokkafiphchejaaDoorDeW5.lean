/-
  Walks: a writer's Len and Text.
-/
import Derived.Test.YtokkafiphchejaaDoorDeW4
namespace Go.Proofs.YtokkafiphchejaaDoor
set_option linter.unusedVariables false
set_option linter.unusedSimpArgs false
open Go Go.RowKit
/-- A writer in memory: its bound, its bytes. -/
def WrtAt (w : World) (b : Nat) (most : Int) (bs : List Nat) : Prop := ∃ v, Blk w b #[.int .i64 most, v] 77 ∧ ((v = .slice none 0 0 ∧ bs = []) ∨ ∃ g cap cur, v = .slice (some ⟨g, 0, none⟩) bs.length cap ∧ g ≠ b ∧ Blk w g cur 5 ∧ ∀ j (h : j < bs.length), cur[j]? = some (.int .u8 (bs[j] : Int)))
set_option maxRecDepth 100000 in
set_option maxHeartbeats 4000000 in
theorem wLen_any (b : Nat) (most : Int) (bs : List Nat) (w : World) (h : WrtAt w b most bs) (hl : bs.length ≤ 16777216) : Calls Tryd.prog 13 #[.pointer (some ⟨b, 0, none⟩)] w fun e' w' => e' = .returned (.int .i64 (bs.length : Int)) ∧ w = w' := by
  obtain ⟨v, hb, hv⟩ := h
  have c1 := hb.cell 1 rfl
  clear hb
  rcases hv with ⟨rfl, rfl⟩ | ⟨g, cap, cur, rfl, -, -, -⟩
  · go_enter Tryd.func13, Tryd.ntmps13
    go_wp2_with fail
    go_ret
    exact ⟨rfl, rfl⟩
  · have j1 : wrap64 (bs.length : Int) = (bs.length : Int) := by unfold wrap64; omega
    clear hl
    go_enter Tryd.func13, Tryd.ntmps13
    go_wp2_with fail
    go_ret
    exact ⟨rfl, rfl⟩
set_option maxRecDepth 100000 in
set_option maxHeartbeats 4000000 in
theorem wText_any (b : Nat) (most : Int) (bs : List Nat) (w : World) (h : WrtAt w b most bs) (hb8 : ∀ c ∈ bs, c < 256) : Calls Tryd.prog 19 #[.pointer (some ⟨b, 0, none⟩)] w fun e' w' => e' = .returned (.string (bstr bs)) ∧ w = w' := by
  obtain ⟨v, hb, hv⟩ := h
  have c1 := hb.cell 1 rfl
  clear hb
  rcases hv with ⟨rfl, rfl⟩ | ⟨g, cap, cur, rfl, -, hg, hc⟩
  · have k1 : (convert 75 9 (.slice none 0 0)).run Tryd.prog w = .ok (.string ⟨#[]⟩) w := run_convert_bytes_string w 75 9 5 none 0 0 Tryd.underlying75 Tryd.underlying5 Tryd.underlying9
    go_enter Tryd.func19, Tryd.ntmps19
    go_wp2_with fail
    go_ret
    exact ⟨rfl, rfl⟩
  · have k1 := run_conv_bytes w g 0 cap bs hb8 (fun j h => by rw [Nat.zero_add]; exact hg.cell j (hc j h))
    clear hg hc hb8
    go_enter Tryd.func19, Tryd.ntmps19
    go_wp2_with fail
    go_ret
    exact ⟨rfl, rfl⟩
end Go.Proofs.YtokkafiphchejaaDoor
