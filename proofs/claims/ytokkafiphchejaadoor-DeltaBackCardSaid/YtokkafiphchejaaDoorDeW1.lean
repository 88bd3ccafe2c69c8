/-
  Walks: a reader's small functions, a new writer and reader, Zig.
-/
import Derived.Test.YtokkafiphchejaaDoorProg
import Derived.Test.YtokkafiphchejaaDoorTurn
import Derived.Test.YtokkafiphchejaaDoorDeD5
namespace Go.Proofs.YtokkafiphchejaaDoor
set_option linter.unusedVariables false
set_option linter.unusedSimpArgs false
open Go Go.RowKit
/-- A reader in memory. -/
def RdrAt (w : World) (b : Nat) (s : ByteArray) (at_ e : Nat) : Prop := Blk w b #[.string s, .int .i64 (at_ : Int), .int .i64 (e : Int)] 93
set_option maxRecDepth 100000 in
set_option maxHeartbeats 4000000 in
theorem newReader_any (s : ByteArray) (w : World) (hs : s.size ≤ 16777216) : Calls Tryd.prog 20 #[.string s] w fun e w' => e = .returned (.tuple #[.pointer (some ⟨w.heap.size, 0, none⟩), .int .i64 0]) ∧ RdrAt w' w.heap.size s 0 0 ∧ Below w.heap.size w w' := by
  have j1 : decide ((16777216 : Int) < (s.size : Int)) = false := decide_eq_false (by omega)
  have j2 : decide (16777216 < s.size) = false := decide_eq_false (by omega)
  have j3 : wrap64 (s.size : Int) = (s.size : Int) := by unfold wrap64; omega
  have HB : Hid (Below w.heap.size w (w.alloc (.cells #[.string s, .int .i64 0, .int .i64 0] 93))) := hid (ext_alloc (ext_refl _) _)
  have HR : Hid (RdrAt (w.alloc (.cells #[.string s, .int .i64 0, .int .i64 0] 93)) w.heap.size s 0 0) := hid (Blk.new _ _ _)
  clear hs
  go_enter Tryd.func20, Tryd.ntmps20
  go_wp2_with fail
  go_ret2
  exact ⟨rfl, HR.out, HB.out⟩
set_option maxRecDepth 100000 in
set_option maxHeartbeats 4000000 in
theorem rAt_any (b : Nat) (s : ByteArray) (at_ e : Nat) (w : World) (h : RdrAt w b s at_ e) : Calls Tryd.prog 26 #[.pointer (some ⟨b, 0, none⟩)] w fun e' w' => e' = .returned (.int .i64 (at_ : Int)) ∧ w = w' := by
  have c1 := Blk.cell h 1 rfl
  clear h
  go_enter Tryd.func26, Tryd.ntmps26
  go_wp2_with fail
  go_ret
  exact ⟨rfl, rfl⟩
set_option maxRecDepth 100000 in
set_option maxHeartbeats 4000000 in
theorem newWriter_any (m : Int) (w : World) (hm : 0 ≤ m ∧ m ≤ 16777216) : Calls Tryd.prog 11 #[.int .i64 m] w fun e w' => e = .returned (.tuple #[.pointer (some ⟨w.heap.size, 0, none⟩), .int .i64 0]) ∧ Blk w' w.heap.size #[.int .i64 m, .slice none 0 0] 77 ∧ Below w.heap.size w w' := by
  have j1 : decide (m < 0) = false := decide_eq_false (by omega)
  have j2 : decide (16777216 < m) = false := decide_eq_false (by omega)
  have HB : Hid (Below w.heap.size w (w.alloc (.cells #[.int .i64 m, .slice none 0 0] 77))) := hid (ext_alloc (ext_refl _) _)
  have HR : Hid (Blk (w.alloc (.cells #[.int .i64 m, .slice none 0 0] 77)) w.heap.size #[.int .i64 m, .slice none 0 0] 77) := hid (Blk.new _ _ _)
  clear hm
  go_enter Tryd.func11, Tryd.ntmps11
  go_wp2_with fail
  go_ret2
  exact ⟨rfl, HR.out, HB.out⟩
set_option maxRecDepth 100000 in
set_option maxHeartbeats 4000000 in
theorem newWriter_bad (m : Int) (w : World) (hm : m < 0 ∨ 16777216 < m) : Calls Tryd.prog 11 #[.int .i64 m] w fun e w' => e = .returned (.tuple #[.pointer none, .int .i64 1]) ∧ w = w' := by
  by_cases h0 : m < 0
  · have j1 : decide (m < 0) = true := decide_eq_true h0
    clear hm h0
    go_enter Tryd.func11, Tryd.ntmps11
    go_wp2_with fail
    go_ret2
    exact ⟨rfl, rfl⟩
  · have j1 : decide (m < 0) = false := decide_eq_false h0
    have j2 : decide (16777216 < m) = true := decide_eq_true (by omega)
    clear hm h0
    go_enter Tryd.func11, Tryd.ntmps11
    go_wp2_with fail
    go_ret2
    exact ⟨rfl, rfl⟩
end Go.Proofs.YtokkafiphchejaaDoor
