/-
  What the rows' list gives: the table of Kinds and that of math/bits stand. And the heap that start-up leaves meets it.
-/
import Derived.Test.YtlbpollckiidlaaDoorRows
import Derived.Test.YtlbpollckiidlaaDoorEvW6
import Derived.Test.YtlbpollckiidlaaDoorFrame
import Derived.LaidMore
import Derived.LaidSub
import Derived.Stop.Joined
import Derived.Stop.LaidErr
import Derived.Lay
import Derived.Lib.LaidTab
import Derived.Shelf.Vars
import Derived.HandedShaped
import Derived.Deep.DeepHandedRow
import Derived.Deep.CondSized
namespace Go.Proofs.YtlbpollckiidlaaDoor
set_option linter.unusedVariables false
set_option linter.unusedSimpArgs false
open Go Go.RowKit Go.ChangeShapes Go.WideShapes Go.ChangeAt

theorem ownKnob_none : ownKnob Tryd.prog.godebug = none := by kernel_rfl
theorem laidOut_ok : laidOutB Tryd.prog = true := by kernel_rfl
/-- A listed variable reads as its datum. -/
theorem laidVars_get {P : Program} {w : World} : ∀ {l : List (String × DataW Unit)} {ps : List MemPlace}, DataW.LaidVars P w l ps → ∀ {n : String} {d : DataW Unit}, (n, d) ∈ l →
    ∃ g t cs fuel p, P.globalNamed n = some g ∧ (P.globals[g]?).map (·.type) = some t ∧ w.var? P n = some cs ∧ DataW.trod (fun _ => ()) P w 0 (fun _ => true) false fuel t cs.toList = some (d, p)
  | [], _, _, n, d, h => by cases h
  | (n', d') :: r, ps, hl, n, d, h => by
    obtain ⟨g, t, cs, fuel, p, q, e1, e2, e3, e4, hq, -⟩ := hl
    rcases List.mem_cons.1 h with h | h
    · cases h; exact ⟨g, t, cs, fuel, p, e1, e2, e3, e4⟩
    · exact laidVars_get hq h
theorem laidMetH_get {P : Program} {w : World} {l : List (String × DataW Unit)} (h : laidMetH P l w) {n : String} {d : DataW Unit} (hm : (n, d) ∈ l) (hn : d.handleName?.isNone = true) :
    ∃ g t cs fuel p, P.globalNamed n = some g ∧ (P.globals[g]?).map (·.type) = some t ∧ w.var? P n = some cs ∧ DataW.trod (fun _ => ()) P w 0 (fun _ => true) false fuel t cs.toList = some (d, p) := by
  obtain ⟨⟨ps, hl, -, -⟩, -⟩ := laidMetH_iff.1 h
  exact laidVars_get hl (List.mem_filter.2 ⟨hm, hn⟩)
theorem gKinds : Tryd.prog.globalNamed "seesaw/event.kinds" = some 0 := by kernel_rfl
theorem tKinds : (Tryd.prog.globals[0]?).map (·.type) = some 48 := by kernel_rfl
theorem cellsKind : Tryd.prog.cellsOf 47 = 2 := by kernel_rfl
theorem cellsKinds : Tryd.prog.cellsOf 48 = 28 := by kernel_rfl
theorem cellsPart : Tryd.prog.cellsOf 50 = 1 := by kernel_rfl
theorem cellsParts : Tryd.prog.cellsOf 46 = 1 := by kernel_rfl
/-- A function's name. -/
def nmL : List (FuncId × List UInt8) := [(107, [40, 42, 115, 101, 101, 115, 97, 119, 47, 101, 118, 101, 110, 116, 46, 119, 104, 111, 108, 101, 41, 46, 116, 120]), (101, [40, 42, 115, 101, 101, 115, 97, 119, 47, 101, 118, 101, 110, 116, 46, 119, 104, 111, 108, 101, 41, 46, 97, 116]), (108, [40, 42, 115, 101, 101, 115, 97, 119, 47, 101, 118, 101, 110, 116, 46, 119, 104, 111, 108, 101, 41, 46, 118]), (109, [40, 42, 115, 101, 101, 115, 97, 119, 47, 101, 118, 101, 110, 116, 46, 119, 104, 111, 108, 101, 41, 46, 120]), (110, [40, 42, 115, 101, 101, 115, 97, 119, 47, 101, 118, 101, 110, 116, 46, 119, 104, 111, 108, 101, 41, 46, 119, 104, 121])]
def nmOf (f : FuncId) : List UInt8 := ((nmL.find? fun x => x.1 == f).map (·.2)).getD []
def hasD : List FuncId → DataW (List UInt8)
  | [] => .nil
  | f :: fs => .slice ((f :: fs).map fun g => .held (nmOf g)) []
theorem kindsD : DataW.funcsOut (.agg [.agg [.lit (.string []), .nil], .agg [.lit (.string [98, 101, 103, 105, 110]), .slice [.iface "func" (.lit (.string [40, 42, 115, 101, 101, 115, 97, 119, 47, 101, 118, 101, 110, 116, 46, 119, 104, 111, 108, 101, 41, 46, 116, 120])), .iface "func" (.lit (.string [40, 42, 115, 101, 101, 115, 97, 119, 47, 101, 118, 101, 110, 116, 46, 119, 104, 111, 108, 101, 41, 46, 118]))] []], .agg [.lit (.string [108, 111, 111, 107]), .slice [.iface "func" (.lit (.string [40, 42, 115, 101, 101, 115, 97, 119, 47, 101, 118, 101, 110, 116, 46, 119, 104, 111, 108, 101, 41, 46, 97, 116])), .iface "func" (.lit (.string [40, 42, 115, 101, 101, 115, 97, 119, 47, 101, 118, 101, 110, 116, 46, 119, 104, 111, 108, 101, 41, 46, 118]))] []], .agg [.lit (.string [108, 111, 97, 100]), .slice [.iface "func" (.lit (.string [40, 42, 115, 101, 101, 115, 97, 119, 47, 101, 118, 101, 110, 116, 46, 119, 104, 111, 108, 101, 41, 46, 97, 116])), .iface "func" (.lit (.string [40, 42, 115, 101, 101, 115, 97, 119, 47, 101, 118, 101, 110, 116, 46, 119, 104, 111, 108, 101, 41, 46, 120]))] []], .agg [.lit (.string [108, 111, 99, 107]), .slice [.iface "func" (.lit (.string [40, 42, 115, 101, 101, 115, 97, 119, 47, 101, 118, 101, 110, 116, 46, 119, 104, 111, 108, 101, 41, 46, 97, 116]))] []], .agg [.lit (.string [98, 117, 109, 112]), .slice [.iface "func" (.lit (.string [40, 42, 115, 101, 101, 115, 97, 119, 47, 101, 118, 101, 110, 116, 46, 119, 104, 111, 108, 101, 41, 46, 118]))] []], .agg [.lit (.string [99, 104, 101, 99, 107]), .slice [.iface "func" (.lit (.string [40, 42, 115, 101, 101, 115, 97, 119, 47, 101, 118, 101, 110, 116, 46, 119, 104, 111, 108, 101, 41, 46, 97, 116]))] []], .agg [.lit (.string [99, 111, 109, 109, 105, 116]), .slice [.iface "func" (.lit (.string [40, 42, 115, 101, 101, 115, 97, 119, 47, 101, 118, 101, 110, 116, 46, 119, 104, 111, 108, 101, 41, 46, 118]))] []], .agg [.lit (.string [115, 116, 111, 114, 101]), .slice [.iface "func" (.lit (.string [40, 42, 115, 101, 101, 115, 97, 119, 47, 101, 118, 101, 110, 116, 46, 119, 104, 111, 108, 101, 41, 46, 97, 116])), .iface "func" (.lit (.string [40, 42, 115, 101, 101, 115, 97, 119, 47, 101, 118, 101, 110, 116, 46, 119, 104, 111, 108, 101, 41, 46, 120]))] []], .agg [.lit (.string [102, 114, 101, 101]), .slice [.iface "func" (.lit (.string [40, 42, 115, 101, 101, 115, 97, 119, 47, 101, 118, 101, 110, 116, 46, 119, 104, 111, 108, 101, 41, 46, 97, 116]))] []], .agg [.lit (.string [97, 98, 111, 114, 116]), .slice [.iface "func" (.lit (.string [40, 42, 115, 101, 101, 115, 97, 119, 47, 101, 118, 101, 110, 116, 46, 119, 104, 111, 108, 101, 41, 46, 119, 104, 121])), .iface "func" (.lit (.string [40, 42, 115, 101, 101, 115, 97, 119, 47, 101, 118, 101, 110, 116, 46, 119, 104, 111, 108, 101, 41, 46, 97, 116]))] []], .agg [.lit (.string [117, 110, 100, 111]), .slice [.iface "func" (.lit (.string [40, 42, 115, 101, 101, 115, 97, 119, 47, 101, 118, 101, 110, 116, 46, 119, 104, 111, 108, 101, 41, 46, 97, 116]))] []], .agg [.lit (.string [119, 97, 105, 116]), .nil], .agg [.lit (.string [119, 97, 107, 101]), .nil]]) = .agg ((List.range 14).map fun k => .agg [.lit (.string (kindNames.getD k [])), hasD (kindsL.getD k [])]) := by rfl
theorem part_of {w : World} {fuel : Nat} {f : FuncId} {v : Value} {q : List MemPlace} (hf : f ∈ nmL.map (·.1)) (h : DataW.trod (funcToken Tryd.prog) Tryd.prog w 0 (fun _ => true) true fuel 50 [v] = some (.held (nmOf f), q)) : v = .func (.func f) #[] #[] := by
  simp only [nmL, List.map_cons, List.map_nil, List.mem_cons, List.not_mem_nil, or_false] at hf
  rcases hf with rfl | rfl | rfl | rfl | rfl
  · exact func_of_trod (b := 40) (r := [42, 115, 101, 101, 115, 97, 119, 47, 101, 118, 101, 110, 116, 46, 119, 104, 111, 108, 101, 41, 46, 116, 120]) (f0 := 107) Tryd.underlying50 (by kernel_rfl) h
  · exact func_of_trod (b := 40) (r := [42, 115, 101, 101, 115, 97, 119, 47, 101, 118, 101, 110, 116, 46, 119, 104, 111, 108, 101, 41, 46, 97, 116]) (f0 := 101) Tryd.underlying50 (by kernel_rfl) h
  · exact func_of_trod (b := 40) (r := [42, 115, 101, 101, 115, 97, 119, 47, 101, 118, 101, 110, 116, 46, 119, 104, 111, 108, 101, 41, 46, 118]) (f0 := 108) Tryd.underlying50 (by kernel_rfl) h
  · exact func_of_trod (b := 40) (r := [42, 115, 101, 101, 115, 97, 119, 47, 101, 118, 101, 110, 116, 46, 119, 104, 111, 108, 101, 41, 46, 120]) (f0 := 109) Tryd.underlying50 (by kernel_rfl) h
  · exact func_of_trod (b := 40) (r := [42, 115, 101, 101, 115, 97, 119, 47, 101, 118, 101, 110, 116, 46, 119, 104, 111, 108, 101, 41, 46, 119, 104, 121]) (f0 := 110) Tryd.underlying50 (by kernel_rfl) h
theorem has_of {w : World} {fuel : Nat} {fs : List FuncId} {v : Value} {q : List MemPlace} (hf : ∀ f ∈ fs, f ∈ nmL.map (·.1)) (h : DataW.trod (funcToken Tryd.prog) Tryd.prog w 0 (fun _ => true) true fuel 46 [v] = some (hasD fs, q)) :
    ∃ a cap, v = .slice a fs.length cap ∧ (fs = [] → a = none ∧ cap = 0) ∧ (fs ≠ [] → ∃ b o, a = some ⟨b, o, none⟩ ∧ ∀ i (h : i < fs.length), w.cell? ⟨b, o + i, none⟩ = some (.func (.func fs[i]) #[] #[])) := by
  rcases DataW.trod_slice Tryd.underlying46 h with ⟨hc, hx⟩ | ⟨ad, len, cap, elems, rest, n, rfl, hc, hx, hb, hl, hm, hlen, hel, hsp, hns⟩
  · cases fs with
    | nil =>
      simp only [List.cons.injEq, and_true] at hc
      exact ⟨none, 0, hc, fun _ => ⟨rfl, rfl⟩, fun h => absurd rfl h⟩
    | cons f fs => simp [hasD] at hx
  · cases fs with
    | nil => simp [hasD] at hx
    | cons f fs =>
      simp only [List.cons.injEq, and_true] at hc
      simp only [hasD, Prod.mk.injEq, DataW.slice.injEq] at hx
      obtain ⟨⟨h1, h2⟩, -⟩ := hx
      have hll : len = (f :: fs).length := by rw [← hlen]; have := congrArg List.length h1; simpa using this.symm
      refine ⟨some ad, cap, by rw [hc, hll], (fun h => by cases h), fun _ => ?_⟩
      rw [cellsPart] at hel
      have get : ∀ i (hi : i < (f :: fs).length), ∃ ad', ad' = ad.add i ∧ ad'.spot = none ∧ w.cell? ⟨ad'.block, ad'.off, none⟩ = some (.func (.func (f :: fs)[i]) #[] #[]) := by
        intro i hi
        have h3 := hel i (by omega)
        rw [Nat.mul_one, List.getElem?_eq_getElem (by omega)] at h3
        obtain ⟨cs', h4, h5⟩ := Option.bind_eq_some_iff.1 h3
        obtain ⟨hsp4, h6, h7⟩ := World.cells?_some h4
        have h8 := h7 0 (by omega)
        match cs', h6 with
        | [c], _ =>
        have e0 : (ad.add i).add 0 = ad.add i := by simp [Addr.add]
        rw [e0] at h8
        have h9 := World.cell?_spot h8
        have h10 := congrArg (fun l : List (DataW (List UInt8)) => l[i]?) h1
        simp only [List.getElem?_map, List.getElem?_eq_getElem (show i < elems.length by omega), List.getElem?_eq_getElem hi, Option.map_some, Option.some.injEq] at h10
        have h11 : DataW.trod (funcToken Tryd.prog) Tryd.prog w 0 (fun _ => true) true n 50 [c] = some (.held (nmOf (f :: fs)[i]), elems[i].2) := h5.trans (congrArg some (Prod.ext h10.symm rfl))
        have hcv := part_of (hf _ (List.getElem_mem hi)) h11
        refine ⟨_, rfl, h9, ?_⟩
        have : ad.add i = ⟨(ad.add i).block, (ad.add i).off, none⟩ := by
          obtain ⟨b, o, s⟩ : ∃ b o, ad.add i = ⟨b, o, none⟩ := by
            generalize ad.add i = A at h9
            obtain ⟨b, o, s⟩ := A
            simp only at h9
            subst h9
            exact ⟨b, o, rfl⟩
          rw [s]
        rw [← this, h8]
        simp [hcv]
      obtain ⟨a0, e0, s0, c0⟩ := get 0 (by simp)
      have hadd : ad.add 0 = ad := by simp [Addr.add]
      rw [hadd] at e0
      subst e0
      obtain ⟨b, o, s⟩ := a0
      simp only at s0
      subst s0
      refine ⟨b, o, rfl, fun i hi => ?_⟩
      obtain ⟨a1, e1, s1, c1⟩ := get i hi
      have : a1.block = b ∧ a1.off = o + i := by
        subst e1
        unfold Addr.add
        split
        · rename_i h0; subst h0; exact ⟨rfl, rfl⟩
        · exact ⟨rfl, rfl⟩
      rw [this.1, this.2] at c1
      exact c1
theorem cellsStr : Tryd.prog.cellsOf 9 = 1 := by kernel_rfl
theorem kinds_of0 {W : World} {l : List (String × DataW Unit)} (h : laidMetH Tryd.prog l W) (hm : ("seesaw/event.kinds", Rows.laid_seesaw_event_kinds) ∈ l) : KindsAt W ∧ NamesAt W := by
  obtain ⟨g, t, cs, fuel, p, hg, ht, hv, hd⟩ := h.funcs hm
  obtain rfl := Option.some.inj (gKinds.symm.trans hg)
  obtain rfl := Option.some.inj (tKinds.symm.trans ht)
  have hd' := hd.trans (congrArg (fun d => some (d, p)) kindsD)
  obtain ⟨xs, m, rfl, hx, hlen, hxs, hel⟩ := DataW.trod_array Tryd.underlying48 hd'
  rw [cellsKind] at hel
  have h28 : cs.size = 28 := by rw [← Array.length_toList, hlen]; exact cellsKinds
  simp only [Prod.mk.injEq, DataW.agg.injEq] at hx
  refine ⟨fun k fs hk => ?_, fun k hk14 => ?_⟩
  · have hk14 : k < 14 := (List.getElem?_eq_some_iff.1 hk).1
    have h1 := hel k hk14
    rw [List.getElem?_eq_getElem (by omega)] at h1
    have h2 := congrArg (fun l : List (DataW (List UInt8)) => l[k]?) hx.1
    simp only [List.getElem?_map, List.getElem?_range hk14, Option.map_some, List.getElem?_eq_getElem (by omega : k < xs.length), Option.some.injEq] at h2
    obtain ⟨ys, n, rfl, hy, hylen, hys, hyel⟩ := DataW.trod_struct Tryd.underlying47 h1
    have h3 := hyel 1 _ rfl
    rw [hy] at h2
    simp only [DataW.agg.injEq] at h2
    match ys, hys with
    | [y0, y1], _ =>
    simp only [List.map_cons, List.map_nil, List.cons.injEq, and_true] at h2
    have hgk : kindsL.getD k [] = fs := by rw [List.getD_eq_getElem?_getD, hk]; rfl
    rw [hgk] at h2
    have hk2 : k * 2 + 1 < cs.toList.length := by rw [Array.length_toList, h28]; omega
    have h4 : ((cs.toList.drop (k * 2)).take 2).drop 1 = [cs.toList[k * 2 + 1]] := by
      rw [List.drop_take, List.drop_drop, List.drop_eq_getElem_cons hk2]
      rfl
    simp only [List.getElem?_cons_succ, List.getElem?_cons_zero] at h3
    have h3' : DataW.trod (funcToken Tryd.prog) Tryd.prog W 0 (fun _ => true) true n 46 ((((cs.toList.drop (k * 2)).take 2).drop 1).take (Tryd.prog.cellsOf 46)) = some y1 := h3
    rw [cellsParts, h4] at h3'
    have h5 : DataW.trod (funcToken Tryd.prog) Tryd.prog W 0 (fun _ => true) true n 46 [cs.toList[k * 2 + 1]] = some (hasD fs, y1.2) := by
      rw [show (hasD fs, y1.2) = y1 from Prod.ext h2.2 rfl]; exact h3'
    have hall : ∀ gs ∈ kindsL, ∀ f ∈ gs, f ∈ nmL.map (·.1) := by decide
    obtain ⟨a, cap, e1, e2, e3⟩ := has_of (hall fs (List.mem_of_getElem? hk)) h5
    refine ⟨a, cap, ?_, e2, e3⟩
    rw [World.var?_cell hg hv (k * 2 + 1), Array.getElem?_eq_getElem (by rw [h28]; omega), ← Array.getElem_toList, e1]
  · have h1 := hel k hk14
    rw [List.getElem?_eq_getElem (by omega)] at h1
    have h2 := congrArg (fun l : List (DataW (List UInt8)) => l[k]?) hx.1
    simp only [List.getElem?_map, List.getElem?_range hk14, Option.map_some, List.getElem?_eq_getElem (by omega : k < xs.length), Option.some.injEq] at h2
    obtain ⟨ys, n, rfl, hy, hylen, hys, hyel⟩ := DataW.trod_struct Tryd.underlying47 h1
    have h3 := hyel 0 _ rfl
    rw [hy] at h2
    simp only [DataW.agg.injEq] at h2
    match ys, hys with
    | [y0, y1], _ =>
    simp only [List.map_cons, List.map_nil, List.cons.injEq, and_true] at h2
    have hk2 : k * 2 < cs.toList.length := by rw [Array.length_toList, h28]; omega
    have h4 : (((cs.toList.drop (k * 2)).take 2).drop 0).take 1 = [cs.toList[k * 2]] := by
      rw [List.drop_zero, List.take_take, List.drop_eq_getElem_cons hk2]
      rfl
    simp only [List.getElem?_cons_zero] at h3
    have h3' : DataW.trod (funcToken Tryd.prog) Tryd.prog W 0 (fun _ => true) true n 9 ((((cs.toList.drop (k * 2)).take 2).drop 0).take (Tryd.prog.cellsOf 9)) = some y0 := h3
    rw [cellsStr, h4] at h3'
    obtain ⟨s, e1, e2, -⟩ := DataW.trod_string Tryd.underlying9 h3'
    rw [e2] at h2
    simp only [DataW.lit.injEq, Lit.string.injEq] at h2
    simp only [List.cons.injEq, and_true] at e1
    rw [World.var?_cell hg hv (k * 2), Array.getElem?_eq_getElem (by rw [h28]; omega), ← Array.getElem_toList, e1, ba_eq s _ h2.1.symm]
    rfl
theorem gPow : Tryd.prog.globalNamed "internal/strconv.uint64pow10" = some 2 := by kernel_rfl
theorem tPow : (Tryd.prog.globals[2]?).map (·.type) = some 99 := by kernel_rfl
theorem cellsU64 : Tryd.prog.cellsOf 81 = 1 := by kernel_rfl
theorem cellsPow : Tryd.prog.cellsOf 99 = 20 := by kernel_rfl
theorem gSyn : Tryd.prog.globalNamed "strconv.ErrSyntax" = some 3 := by kernel_rfl
theorem tSyn : (Tryd.prog.globals[3]?).map (·.type) = some 60 := by kernel_rfl
theorem gRan : Tryd.prog.globalNamed "strconv.ErrRange" = some 4 := by kernel_rfl
theorem tRan : (Tryd.prog.globals[4]?).map (·.type) = some 60 := by kernel_rfl
theorem cellsES : Tryd.prog.cellsOf 120 = 1 := by kernel_rfl
theorem star : "*" ++ "errors.errorString" = "*errors.errorString" := by decide
theorem rowES (u : TypeId) (h : Tryd.prog.typeName? 3 u = some "*errors.errorString") : u = 118 :=
  typeName_ptr_named (nm := "errors.errorString") (by rw [star]; kernel_rfl) (by kernel_rfl) (by decide) u (by rw [star]; exact h)
theorem head_of {P : Program} {l : List (String × DataW Unit)} {W : World} (h : laidMetH P l W) (n : String) (d : DataW Unit) (hf : (l.filter fun x => x.2.handleName?.isNone).filter (fun x => x.1 == n) = [(n, d)]) : laidMet P [(n, d)] W := by
  have := (laidMetH_iff.1 h).1.filter (fun x => x.1 == n)
  rw [hf] at this
  exact this
theorem max_of {W : World} (h : W.ShapedOpen Tryd.prog) : ∃ m, W.cell? ⟨5, 0, none⟩ = some (.int .i64 m) :=
  cell_of_shapedOpen_int (t := 3) (zero := #[.int .i64 0]) h (of_decide_eq_true (by kernel_rfl)) (by kernel_rfl) rfl (by kernel_rfl) (by kernel_rfl) Tryd.underlying3
/-- The rows' list gives what the walks ask. -/
theorem std_of {W : World} {l : List (String × DataW Unit)} (h : laidMetH Tryd.prog l W) (hsh : W.ShapedOpen Tryd.prog) (hm : ("seesaw/event.kinds", Rows.laid_seesaw_event_kinds) ∈ l)
    (h1 : (l.filter fun x => x.2.handleName?.isNone).filter (fun x => x.1 == "internal/strconv.uint64pow10") = [("internal/strconv.uint64pow10", Rows.laid_internal_strconv_uint64pow10)])
    (h2 : (l.filter fun x => x.2.handleName?.isNone).filter (fun x => x.1 == "strconv.ErrSyntax") = [("strconv.ErrSyntax", Rows.laid_strconv_ErrSyntax)])
    (h3 : (l.filter fun x => x.2.handleName?.isNone).filter (fun x => x.1 == "strconv.ErrRange") = [("strconv.ErrRange", Rows.laid_strconv_ErrRange)]) : Std W := by
  obtain ⟨k1, k2⟩ := kinds_of0 h hm
  have a1 := head_of h _ _ h1
  have a2 := head_of h _ _ h2
  have a3 := head_of h _ _ h3
  have htab : Lib.TabIs Tryd.prog W "internal/strconv.uint64pow10" .u64 Lib.pow10Tab := Lib.tabIs_of_head gPow tPow Tryd.underlying99 Tryd.underlying81 cellsU64 cellsPow (rest := []) (by
    have e : (Rows.laid_internal_strconv_uint64pow10 : DataW Unit) = Lib.tabData .u64 Lib.pow10Tab := by kernel_rfl
    rw [← e]; exact a1)
  obtain ⟨s1, -, hs1, -, -, -⟩ := laid_sentinel a2 gSyn tSyn Tryd.underlying60 rowES Tryd.underlying118 Tryd.underlying120 rfl rfl Tryd.underlying9 cellsES cellsStr
  obtain ⟨s2, -, hs2, -, -, -⟩ := laid_sentinel a3 gRan tRan Tryd.underlying60 rowES Tryd.underlying118 Tryd.underlying120 rfl rfl Tryd.underlying9 cellsES cellsStr
  exact ⟨k1, k2, htab, ⟨_, _, hs1⟩, ⟨_, _, hs2⟩, max_of hsh⟩
theorem returnsInHanded_of_change_and_shaped {H : Type} {enc : TypeId × Value → H} {a : Assume} {C : Checked} {os : Os} {f : FuncId} {fn : Func} {s : ChangeSpec} {conds : List PathCond} {apart fresh handsOn again : Bool} {X : World → Array Value → Prop}
    (hX : ∀ (w w' : World) (args : Array Value), w.heap = w'.heap → X w args → X w' args)
    (own : ownKnob C.prog.godebug = none) (started : os.Started) (noInit : C.prog.inits.idxOf? f = none) (hfn : C.prog.funcs[f]? = some fn)
    (witness : ∃ (w : World) (tape : Tape) (i : Input), w.os = os ∧ (w.forCall tape i).Shaped C.prog ∧ i.vars = [] ∧ Input.okWide C.prog (w.forCall tape i) .any w.heap.size f i ∧
      ((s.pre enc C.prog fn conds apart (w.forCall tape i).memory i.args ∧ X (w.forCall tape i).memory i.args) ∧ sizedMet enc C.prog fn (OpenSpec.ofChange s) apart (w.forCall tape i).memory i.args) ∧ a.holds C.prog (lone (Frame.enter C.prog f i.args .normal) [] (w.forCall tape i)))
    (contract : ∀ (W : World) (base : Nat) (args : Array Value) (ds gs : List (DataW H)) (before : List MemPlace),
      (∀ (j : Nat) t v, fn.params[j]? = some t → args[j]? = some v → Value.okWide C.prog W .any base t v) →
      DataW.Whole enc C.prog fn.params.toList s.vars apart W args.toList ds gs before → W.ShapedOpen C.prog → X W args →
      Calls C.prog f args W fun e W' => ∃ v, e = .returned v ∧ s.post enc C.prog fn apart fresh handsOn again W args v W') :
    ReturnsInHanded a C os f .any (fun w args => (s.pre enc C.prog fn conds apart w args ∧ X w args) ∧ sizedMet enc C.prog fn (OpenSpec.ofChange s) apart w args) (s.post enc C.prog fn apart fresh handsOn again) := by
  refine returnsInHanded_of_calls own started noInit witness ?_
  intro w tape i _ hsh _ hok hpre hholds
  obtain ⟨_, _, _, fn', hfn', _, _, _, _, hval⟩ := hok
  have e : fn' = fn := Option.some.inj (hfn'.symm.trans hfn)
  subst e
  obtain ⟨⟨⟨ds, gs, before, hw, hc⟩, hx⟩, hz⟩ := hpre
  have hw' := DataW.Whole.of_heap (w' := w.forCall tape i) (by rfl) hw
  refine (contract (w.forCall tape i) w.heap.size i.args ds gs before hval hw' hsh (hX _ _ _ (by rfl) hx)).mono fun e W' ⟨v, he, hp⟩ => ?_
  subst he
  exact ChangeSpec.post_blind hp
noncomputable def evW (os : Os) : World := (World.doorLaid Tryd.prog 106 os).layVars Tryd.prog [("unicode/utf8.first", Rows.laid_unicode_utf8_first)]
theorem evW_os (os : Os) : (evW os).os = os := (World.layVars_os _ _ _).trans rfl
noncomputable def evB (os : Os) (args : Array Value) (l : List String) : List Nat := ((DataW.laidRun Tryd.prog ((evW os).forCall (fun _ _ => 0) ⟨#[], args, []⟩).memory 8 l).map fun x => x.2.map MemPlace.block).getD []
set_option maxRecDepth 100000 in
theorem door_met_event (os : Os) (args : Array Value) : laidMetH Tryd.prog Rows.eventMoreRow.laid ((evW os).forCall (fun _ _ => 0) ⟨#[], args, []⟩).memory := by
  refine laidMetH_of_parts3 (fuel := 8) ?_ (by kernel_rfl) (by kernel_rfl)
  generalize hl : (Rows.eventMoreRow.laid.filter fun x => x.2.handleName?.isNone) = l
  have h1 : (l.filter fun x => ["unicode/utf8.first"].contains x.1) = [("unicode/utf8.first", Rows.laid_unicode_utf8_first)] := by subst hl; rfl
  refine laidMet_layVars (w0 := World.doorLaid Tryd.prog 106 os) ["unicode/utf8.first"] (evB os args ["math/bits.deBruijn32tab", "math/bits.deBruijn64tab", "internal/strconv.uint64pow10", "unicode/utf8.acceptRanges", "strconv.ErrRange", "strconv.ErrSyntax"]) ?_ ?_ ?_ ?_
  · rw [h1]; rfl
  · rw [h1]; kernel_rfl
  · rw [h1]; kernel_rfl
  · subst hl
    exact LaidIn.of_run _ 8 (by kernel_rfl) (by kernel_rfl) (by kernel_rfl) (by kernel_rfl)
theorem evW_shaped (os : Os) (args : Array Value) : ((evW os).forCall (fun _ _ => 0) ⟨#[], args, []⟩).Shaped Tryd.prog := World.shaped_of_ZipB (by kernel_rfl) (by kernel_rfl)
end Go.Proofs.YtlbpollckiidlaaDoor
