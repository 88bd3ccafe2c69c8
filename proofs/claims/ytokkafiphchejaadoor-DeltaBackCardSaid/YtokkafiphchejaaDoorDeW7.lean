/-
  Walk: read of a number.
-/
import Derived.Test.YtokkafiphchejaaDoorDeW6
import Derived.Deep.QuietTactic
namespace Go.Proofs.YtokkafiphchejaaDoor
set_option linter.unusedVariables false
set_option linter.unusedSimpArgs false
open Go Go.RowKit
set_option maxRecDepth 100000 in
set_option maxHeartbeats 4000000 in
theorem read64_err (b : Nat) (s : ByteArray) (at_ e : Nat) (fv : Value) (w : World) (h : RdrAt w b s at_ e) (he : e ≠ 0) : Calls Tryd.prog 68 #[.pointer (some ⟨b, 0, none⟩), fv] w fun e' w' => e' = .returned (.tuple #[.int .u64 0, .int .i64 (e : Int)]) ∧ Below w.heap.size w w' := by
  have c2 : w.cell? ⟨b, 2, none⟩ = some (.int .i64 (e : Int)) := Blk.cell h 2 rfl
  have j1 : ((e : Int) == 0) = false := beq_eq_false_iff_ne.2 (by omega)
  have j2 : (e == 0) = false := beq_eq_false_iff_ne.2 he
  have j3 : ((e : Int) != 0) = true := bne_iff_ne.2 (by omega)
  have j4 : (e != 0) = true := bne_iff_ne.2 he
  have HH := hid h
  clear h he
  go_enter Tryd.func68, Tryd.ntmps68
  go_wp2_with fail
  go_quiet (fail)
  go_wp2_with fail
  go_ret2
  exact ⟨rfl, ext_drewN (ext_refl _) _⟩
end Go.Proofs.YtokkafiphchejaaDoor
