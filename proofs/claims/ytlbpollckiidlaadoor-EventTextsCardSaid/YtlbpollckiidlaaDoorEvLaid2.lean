/-
  What the rows' list gives where the document's names are listed, too.
-/
import Derived.Test.YtlbpollckiidlaaDoorEvLaid
import Derived.Test.YtlbpollckiidlaaDoorEvR
namespace Go.Proofs.YtlbpollckiidlaaDoor
set_option linter.unusedVariables false
set_option linter.unusedSimpArgs false
open Go Go.RowKit Go.ChangeShapes Go.WideShapes Go.ChangeAt
theorem gNames : Tryd.prog.globalNamed "seesaw/seesawref12.names" = some 1 := by kernel_rfl
theorem tNames : (Tryd.prog.globals[1]?).map (·.type) = some 73 := by kernel_rfl
theorem cellsNames : Tryd.prog.cellsOf 73 = 14 := by kernel_rfl
theorem namesD : (Rows.laid_seesaw_seesawref12_names : DataW Unit) = .agg (kindNames.map fun l => .lit (.string l)) := by kernel_rfl
theorem names_ofR {W : World} {l : List (String × DataW Unit)} (h : laidMetH Tryd.prog l W) (hm : ("seesaw/seesawref12.names", Rows.laid_seesaw_seesawref12_names) ∈ l) : NamesR W := by
  obtain ⟨g, t, cs, fuel, p, hg, ht, hv, hd⟩ := laidMetH_get h hm (by kernel_rfl)
  obtain rfl := Option.some.inj (gNames.symm.trans hg)
  obtain rfl := Option.some.inj (tNames.symm.trans ht)
  rw [namesD] at hd
  obtain ⟨xs, m, rfl, hx, hlen, hxs, hel⟩ := DataW.trod_array Tryd.underlying73 hd
  rw [cellsStr] at hel
  have h14 : cs.size = 14 := by rw [← Array.length_toList, hlen]; exact cellsNames
  simp only [Prod.mk.injEq, DataW.agg.injEq] at hx
  intro k hk14
  have h1 := hel k hk14
  rw [List.getElem?_eq_getElem (by omega)] at h1
  have h2 := congrArg (fun l : List (DataW Unit) => l[k]?) hx.1
  simp only [List.getElem?_map, List.getElem?_eq_getElem (by omega : k < xs.length), Option.map_some] at h2
  have hkn : kindNames[k]? = some (kindNames.getD k []) := by
    rw [List.getD_eq_getElem?_getD, List.getElem?_eq_getElem (by exact hk14)]; rfl
  rw [hkn] at h2
  simp only [Option.map_some, Option.some.injEq] at h2
  have hk2 : k < cs.toList.length := by rw [Array.length_toList, h14]; omega
  have h4 : (cs.toList.drop (k * 1)).take 1 = [cs.toList[k]] := by
    rw [Nat.mul_one, List.drop_eq_getElem_cons hk2]
    rfl
  rw [h4] at h1
  obtain ⟨s, e1, e2, -⟩ := DataW.trod_string Tryd.underlying9 h1
  rw [e2] at h2
  simp only [DataW.lit.injEq, Lit.string.injEq] at h2
  simp only [List.cons.injEq, and_true] at e1
  rw [World.var?_cell hg hv k, Array.getElem?_eq_getElem (by rw [h14]; omega), ← Array.getElem_toList, e1, ba_eq s _ h2.symm]
  rfl
set_option maxRecDepth 100000 in
theorem door_met_event2 (os : Os) (args : Array Value) : laidMetH Tryd.prog Rows.eventTellsRow.laid ((evW os).forCall (fun _ _ => 0) ⟨#[], args, []⟩).memory := by
  refine laidMetH_of_parts3 (fuel := 8) ?_ (by kernel_rfl) (by kernel_rfl)
  generalize hl : (Rows.eventTellsRow.laid.filter fun x => x.2.handleName?.isNone) = l
  have h1 : (l.filter fun x => ["unicode/utf8.first"].contains x.1) = [("unicode/utf8.first", Rows.laid_unicode_utf8_first)] := by subst hl; rfl
  refine laidMet_layVars (w0 := World.doorLaid Tryd.prog 106 os) ["unicode/utf8.first"] (evB os args ((l.filter fun x => !["unicode/utf8.first"].contains x.1).map (·.1))) ?_ ?_ ?_ ?_
  · rw [h1]; rfl
  · rw [h1]; kernel_rfl
  · rw [h1]; kernel_rfl
  · subst hl
    exact LaidIn.of_run _ 8 (by kernel_rfl) (by kernel_rfl) (by kernel_rfl) (by kernel_rfl)
end Go.Proofs.YtlbpollckiidlaaDoor
