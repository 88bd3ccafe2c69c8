/-
  ExprNames: the operators' table as it stands ahead of the call.
-/
import Derived.Test.YtonckpblbdopmaaDoorExLaid
import Derived.Test.YtonckpblbdopmaaDoorRkT
namespace Go.Proofs.YtonckpblbdopmaaDoor.Rk
set_option linter.unusedVariables false
open Go Go.RowKit
set_option maxRecDepth 100000

theorem nil_of_trod {P : Program} {w : World} {base : Nat} {sp : Nat → Bool} {fuel : Nat} {t : TypeId} {ps rs : Array TypeId} {va : Bool} {v : Value} {q : List MemPlace}
    (ht : P.underlying t = some (.func ps rs va)) (h : DataW.trod (funcToken P) P w base sp true fuel t [v] = some (.nil, q)) : v = .nilFunc := by
  cases fuel with
  | zero => simp [DataW.trod] at h
  | succ n => cases v <;> simp [DataW.trod, ht] at h ⊢
def opsT : List AV := [.nilf, .nilf, .nilf, .nilf, .fn 61 [] [], .fn 62 [] [], .fn 63 [] [], .fn 64 [] [], .fn 66 [] []]
theorem opsT_in {W : World} (h : laidMetH Tryd.prog Rows.exprVariableRow.laid W) : TabIn W 0 opsT := by
  have hop := ops_of_laid h
  obtain ⟨g, t, cs, fuel, p, hg, ht, hv, hd⟩ := h.funcs (List.mem_singleton.2 rfl)
  obtain rfl := Option.some.inj (gOps.symm.trans hg)
  obtain rfl := Option.some.inj (tOps.symm.trans ht)
  have hd' : DataW.trod (funcToken Tryd.prog) Tryd.prog W 0 (fun _ => true) true fuel 55 cs.toList = some (.agg [.nil, .nil, .nil, .nil, .held [115, 101, 101, 115, 97, 119, 47, 101, 120, 112, 114, 46, 111, 112, 101, 114, 97, 116, 111, 114, 115, 36, 49], .held [115, 101, 101, 115, 97, 119, 47, 101, 120, 112, 114, 46, 111, 112, 101, 114, 97, 116, 111, 114, 115, 36, 50], .held [115, 101, 101, 115, 97, 119, 47, 101, 120, 112, 114, 46, 111, 112, 101, 114, 97, 116, 111, 114, 115, 36, 51], .held [115, 101, 101, 115, 97, 119, 47, 101, 120, 112, 114, 46, 111, 112, 101, 114, 97, 116, 111, 114, 115, 36, 52], .held [115, 101, 101, 115, 97, 119, 47, 101, 120, 112, 114, 46, 111, 112, 101, 114, 97, 116, 111, 114, 115, 36, 53]], p) := hd
  obtain ⟨xs, m, rfl, hx, hlen, hxs, hel⟩ := DataW.trod_array Tryd.underlying55 hd'
  rw [cellsFn] at hel
  have h9 : cs.size = 9 := by rw [← Array.length_toList, hlen]; kernel_rfl
  match xs, hxs with
  | [(x0, p0), (x1, p1), (x2, p2), (x3, p3), (x4, p4), (x5, p5), (x6, p6), (x7, p7), (x8, p8)], _ =>
  simp only [Prod.mk.injEq, DataW.agg.injEq, List.map_cons, List.map_nil, List.cons.injEq] at hx
  obtain ⟨⟨e0, e1, e2, e3, -⟩, -⟩ := hx
  have key : ∀ (i : Nat) (hi : i < 9) (y : DataW (List UInt8) × List MemPlace), [(x0, p0), (x1, p1), (x2, p2), (x3, p3), (x4, p4), (x5, p5), (x6, p6), (x7, p7), (x8, p8)][i]? = some y →
      ∃ v, W.cell? ⟨0, i, none⟩ = some v ∧ DataW.trod (funcToken Tryd.prog) Tryd.prog W 0 (fun _ => true) true m 40 [v] = some y := by
    intro i hi y hy
    have hc := World.var?_cell hg hv i
    have hi' : i < cs.size := by omega
    refine ⟨cs[i], by rw [hc, Array.getElem?_eq_getElem hi'], ?_⟩
    have h := hel i hi
    rw [hy, Nat.mul_one, List.drop_eq_getElem_cons (by simpa using hi')] at h
    simpa using h
  obtain ⟨v0, c0, r0⟩ := key 0 (by decide) _ rfl
  obtain ⟨v1, c1, r1⟩ := key 1 (by decide) _ rfl
  obtain ⟨v2, c2, r2⟩ := key 2 (by decide) _ rfl
  obtain ⟨v3, c3, r3⟩ := key 3 (by decide) _ rfl
  rw [← e0] at r0; rw [← e1] at r1; rw [← e2] at r2; rw [← e3] at r3
  obtain rfl := nil_of_trod Tryd.underlying40 r0
  obtain rfl := nil_of_trod Tryd.underlying40 r1
  obtain rfl := nil_of_trod Tryd.underlying40 r2
  obtain rfl := nil_of_trod Tryd.underlying40 r3
  obtain ⟨c4, c5, c6, c7, c8⟩ := hop
  have hb : ∃ el fr, W.heap[0]? = some (.cells cs el fr) := by
    simp only [World.var?, hg, Option.bind_some] at hv
    split at hv
    · rename_i h'; cases hv; exact ⟨_, _, h'⟩
    · cases hv
  obtain ⟨el, fr, hb⟩ := hb
  have hget := fun i => World.var?_cell hg hv i
  rw [hget] at c0 c1 c2 c3 c4 c5 c6 c7 c8
  refine ⟨by decide, cs, el, fr, hb, by rw [h9]; decide, ?_⟩
  have h9' : cs.toList.length = 9 := by rw [Array.length_toList]; exact h9
  have htk : cs.toList.take opsT.length = cs.toList := List.take_of_length_le (by rw [h9']; decide)
  rw [htk]
  rw [← Array.getElem?_toList] at c0 c1 c2 c3 c4 c5 c6 c7 c8
  have hz : ∀ (f : FuncId), VR m00 (.fn f [] []) (.func (.func f) #[] #[]) := fun f => .fn f rfl (fun i a v h => by simp at h) rfl (fun i a v h => by simp at h)
  refine ⟨by rw [h9']; rfl, fun i a v ha hv' => ?_⟩
  match i, ha with
  | 0, ha => cases ha; rw [c0] at hv'; cases hv'; exact .nilf
  | 1, ha => cases ha; rw [c1] at hv'; cases hv'; exact .nilf
  | 2, ha => cases ha; rw [c2] at hv'; cases hv'; exact .nilf
  | 3, ha => cases ha; rw [c3] at hv'; cases hv'; exact .nilf
  | 4, ha => cases ha; rw [c4] at hv'; cases hv'; exact hz _
  | 5, ha => cases ha; rw [c5] at hv'; cases hv'; exact hz _
  | 6, ha => cases ha; rw [c6] at hv'; cases hv'; exact hz _
  | 7, ha => cases ha; rw [c7] at hv'; cases hv'; exact hz _
  | 8, ha => cases ha; rw [c8] at hv'; cases hv'; exact hz _
  | n + 9, ha => cases ha
end Go.Proofs.YtonckpblbdopmaaDoor.Rk
