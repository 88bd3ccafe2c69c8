/-
  Walk: the reader's closure for a number.
-/
import Derived.Test.YtokkafiphchejaaDoorDeW5
import Derived.Test.YtokkafiphchejaaDoorDeV4
namespace Go.Proofs.YtokkafiphchejaaDoor
set_option linter.unusedVariables false
set_option linter.unusedSimpArgs false
open Go Go.RowKit
def num1E (s : ByteArray) (most : Nat) : Nat := if (getN (byt s)).2.2 = 0 ∧ most < (getN (byt s)).1 then 20 else (getN (byt s)).2.2
set_option maxRecDepth 100000 in
set_option maxHeartbeats 4000000 in
theorem num1_any (s : ByteArray) (most p : Nat) (w : World) (hp : w.cell? ⟨p, 0, none⟩ = some (.int .u64 (most : Int))) (hs : s.size ≤ 9223372036854775807) : Calls Tryd.prog 69 #[.string s, .pointer (some ⟨p, 0, none⟩)] w fun e' w' =>
    e' = .returned (.tuple #[.int .u64 ((getN (byt s)).1 : Int), .int .i64 ((getN (byt s)).2.1 : Int), .int .i64 (num1E s most : Int)]) ∧ w = w' := by
  have HG := hid (get_any s w hs)
  unfold num1E
  generalize getN (byt s) = r at HG ⊢
  obtain ⟨n, size, e⟩ := r
  dsimp only at HG ⊢
  clear hs
  by_cases he : e = 0
  · subst he
    by_cases hn : most < n
    · rw [if_pos ⟨rfl, hn⟩]
      have j1 : decide ((most : Int) < (n : Int)) = true := decide_eq_true (by omega)
      have j2 : decide (most < n) = true := decide_eq_true hn
      clear hn
      go_enter Tryd.func69, Tryd.ntmps69
      go_wp2_with fail
      refine HG.out.mono ?_
      rintro e' w' ⟨rfl, rfl⟩
      go_wp2_with fail
      exact bodyPost_ret (v := .tuple #[.int .u64 (n : Int), .int .i64 (size : Int), .int .i64 20]) (by simp [results, Tryd.results69, go_sem]) rfl ⟨rfl, rfl⟩
    · rw [if_neg (fun h => hn h.2)]
      have j1 : decide ((most : Int) < (n : Int)) = false := decide_eq_false (by omega)
      have j2 : decide (most < n) = false := decide_eq_false hn
      clear hn
      go_enter Tryd.func69, Tryd.ntmps69
      go_wp2_with fail
      refine HG.out.mono ?_
      rintro e' w' ⟨rfl, rfl⟩
      go_wp2_with fail
      exact bodyPost_ret (v := .tuple #[.int .u64 (n : Int), .int .i64 (size : Int), .int .i64 0]) (by simp [results, Tryd.results69, go_sem]) rfl ⟨rfl, rfl⟩
  · rw [if_neg (fun h => he h.1)]
    have j1 : ((e : Int) == 0) = false := beq_eq_false_iff_ne.2 (by omega)
    have j2 : (e == 0) = false := beq_eq_false_iff_ne.2 he
    clear he
    go_enter Tryd.func69, Tryd.ntmps69
    go_wp2_with fail
    refine HG.out.mono ?_
    rintro e' w' ⟨rfl, rfl⟩
    go_wp2_with fail
    exact bodyPost_ret (v := .tuple #[.int .u64 (n : Int), .int .i64 (size : Int), .int .i64 (e : Int)]) (by simp [results, Tryd.results69, go_sem]) rfl ⟨rfl, rfl⟩
end Go.Proofs.YtokkafiphchejaaDoor
