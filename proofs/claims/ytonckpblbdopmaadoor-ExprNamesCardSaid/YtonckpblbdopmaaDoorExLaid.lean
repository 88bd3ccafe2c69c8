/-
  What the rows' list gives: the table of operators holds its five functions. And the heap that start-up leaves meets it.
-/
import Derived.Test.YtonckpblbdopmaaDoorRows
import Derived.Test.YtonckpblbdopmaaDoorExAw
import Derived.Test.YtonckpblbdopmaaDoorExOpen
import Derived.Test.YtonckpblbdopmaaDoorFrame
import Derived.LaidMore
import Derived.Stop.Joined
import Derived.Deep.DeepHandedRow
import Derived.Deep.CondSized
namespace Go.Proofs.YtonckpblbdopmaaDoor
set_option linter.unusedVariables false
open Go Go.RowKit Go.ChangeShapes Go.WideShapes Go.ChangeAt

theorem ownKnob_none : ownKnob Tryd.prog.godebug = none := by kernel_rfl
theorem laidOut_ok : laidOutB Tryd.prog = true := by kernel_rfl
theorem gOps : Tryd.prog.globalNamed "seesaw/expr.operators" = some 0 := by kernel_rfl
theorem tOps : (Tryd.prog.globals[0]?).map (·.type) = some 55 := by kernel_rfl
theorem cellsFn : Tryd.prog.cellsOf 40 = 1 := by kernel_rfl
theorem door_met (os : Os) (args : Array Value) : laidMetH Tryd.prog Rows.exprVariableRow.laid ((World.doorLaid Tryd.prog 14 os).forCall (fun _ _ => 0) ⟨#[], args, []⟩).memory :=
  laidMetH_of_parts3 (fuel := 8) (laidMet_of_run' 8 (by kernel_rfl) (by kernel_rfl)) (by kernel_rfl) (by kernel_rfl)

theorem ops_of_laid {W : World} (h : laidMetH Tryd.prog Rows.exprVariableRow.laid W) : OpsAt W := by
  obtain ⟨g, t, cs, fuel, p, hg, ht, hv, hd⟩ := h.funcs (List.mem_singleton.2 rfl)
  obtain rfl := Option.some.inj (gOps.symm.trans hg)
  obtain rfl := Option.some.inj (tOps.symm.trans ht)
  have hd' : DataW.trod (funcToken Tryd.prog) Tryd.prog W 0 (fun _ => true) true fuel 55 cs.toList = some (.agg [.nil, .nil, .nil, .nil, .held [115, 101, 101, 115, 97, 119, 47, 101, 120, 112, 114, 46, 111, 112, 101, 114, 97, 116, 111, 114, 115, 36, 49], .held [115, 101, 101, 115, 97, 119, 47, 101, 120, 112, 114, 46, 111, 112, 101, 114, 97, 116, 111, 114, 115, 36, 50], .held [115, 101, 101, 115, 97, 119, 47, 101, 120, 112, 114, 46, 111, 112, 101, 114, 97, 116, 111, 114, 115, 36, 51], .held [115, 101, 101, 115, 97, 119, 47, 101, 120, 112, 114, 46, 111, 112, 101, 114, 97, 116, 111, 114, 115, 36, 52], .held [115, 101, 101, 115, 97, 119, 47, 101, 120, 112, 114, 46, 111, 112, 101, 114, 97, 116, 111, 114, 115, 36, 53]], p) := hd
  obtain ⟨xs, m, rfl, hx, hlen, hxs, hel⟩ := DataW.trod_array Tryd.underlying55 hd'
  rw [cellsFn] at hel
  have h9 : cs.size = 9 := by rw [← Array.length_toList, hlen]; kernel_rfl
  match xs, hxs with
  | [(x0, p0), (x1, p1), (x2, p2), (x3, p3), (x4, p4), (x5, p5), (x6, p6), (x7, p7), (x8, p8)], _ =>
  simp only [Prod.mk.injEq, DataW.agg.injEq, List.map_cons, List.map_nil, List.cons.injEq] at hx
  obtain ⟨⟨-, -, -, -, e4, e5, e6, e7, e8, -⟩, -⟩ := hx
  have key : ∀ (i : Nat) (hi : i < 9) (y : DataW (List UInt8) × List MemPlace), [(x0, p0), (x1, p1), (x2, p2), (x3, p3), (x4, p4), (x5, p5), (x6, p6), (x7, p7), (x8, p8)][i]? = some y →
      ∃ v, W.cell? ⟨0, i, none⟩ = some v ∧ DataW.trod (funcToken Tryd.prog) Tryd.prog W 0 (fun _ => true) true m 40 [v] = some y := by
    intro i hi y hy
    have hc := World.var?_cell hg hv i
    have hi' : i < cs.size := by omega
    refine ⟨cs[i], by rw [hc, Array.getElem?_eq_getElem hi'], ?_⟩
    have h := hel i hi
    rw [hy, Nat.mul_one, List.drop_eq_getElem_cons (by simpa using hi')] at h
    simpa using h
  obtain ⟨v4, c4, r4⟩ := key 4 (by decide) _ rfl
  obtain ⟨v5, c5, r5⟩ := key 5 (by decide) _ rfl
  obtain ⟨v6, c6, r6⟩ := key 6 (by decide) _ rfl
  obtain ⟨v7, c7, r7⟩ := key 7 (by decide) _ rfl
  obtain ⟨v8, c8, r8⟩ := key 8 (by decide) _ rfl
  rw [← e4] at r4; rw [← e5] at r5; rw [← e6] at r6; rw [← e7] at r7; rw [← e8] at r8
  obtain rfl := func_of_trod (f0 := 61) Tryd.underlying40 (by kernel_rfl) r4
  obtain rfl := func_of_trod (f0 := 62) Tryd.underlying40 (by kernel_rfl) r5
  obtain rfl := func_of_trod (f0 := 63) Tryd.underlying40 (by kernel_rfl) r6
  obtain rfl := func_of_trod (f0 := 64) Tryd.underlying40 (by kernel_rfl) r7
  obtain rfl := func_of_trod (f0 := 66) Tryd.underlying40 (by kernel_rfl) r8
  exact ⟨c4, c5, c6, c7, c8⟩
end Go.Proofs.YtonckpblbdopmaaDoor
