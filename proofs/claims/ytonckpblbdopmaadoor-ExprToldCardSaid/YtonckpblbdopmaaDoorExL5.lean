/-
  ExprTold whole: the branches, and what comes in.
-/
import Derived.Test.YtonckpblbdopmaaDoorExL4
import Derived.Test.YtonckpblbdopmaaDoorExOpen
namespace Go.Proofs.YtonckpblbdopmaaDoor
set_option linter.unusedVariables false
open Go Go.RowKit Go.ChangeShapes Go.WideShapes Go.ChangeAt

theorem cellsArr8 : Tryd.prog.cellsOf 44 = 8 := by kernel_rfl
theorem okWide_arr {P : Program} {w : World} {r : Reach} {b0 : Nat} {t e : TypeId} {n : Nat} {v : Value} (ht : P.underlying t = some (.array n e)) (h : Value.okWide P w r b0 t v) : ∃ cs, v = .agg cs ∧ cs.size = P.cellsOf t := by
  simp only [Value.okWide, ht] at h
  obtain ⟨cs, h1, h2, _⟩ := h
  exact ⟨cs, h1, h2⟩
theorem open_Ints8 {H : Type} {enc : TypeId × Value → H} {w : World} {r : Reach} {b0 : Nat} {sp : Nat → Bool} {held : Bool} {v : Value} {d : DataW H} {p : List MemPlace}
    (hv : Value.okWide Tryd.prog w r b0 44 v) (h : DataW.Trod enc Tryd.prog w 0 sp held 44 v d p) :
    ∃ x0 x1 x2 x3 x4 x5 x6 x7 : Int, v = .agg #[.int .i64 x0, .int .i64 x1, .int .i64 x2, .int .i64 x3, .int .i64 x4, .int .i64 x5, .int .i64 x6, .int .i64 x7] ∧
      ∀ x ∈ [x0, x1, x2, x3, x4, x5, x6, x7], -9223372036854775808 ≤ x ∧ x ≤ 9223372036854775807 := by
  obtain ⟨cs, rfl, hsz⟩ := okWide_arr Tryd.underlying44 hv
  obtain ⟨fuel, hf⟩ := h
  rw [cellsArr8] at hsz
  obtain ⟨xs, n, rfl, -, -, hxl, hel⟩ := DataW.trod_array Tryd.underlying44 hf
  rcases cs with ⟨cs⟩
  match cs, hsz with
  | [c0, c1, c2, c3, c4, c5, c6, c7], _ =>
  have key : ∀ i (c : Value), i < 8 → [c0, c1, c2, c3, c4, c5, c6, c7][i]? = some c → ∃ x : Int, c = .int .i64 x ∧ -9223372036854775808 ≤ x ∧ x ≤ 9223372036854775807 := by
    intro i c hi hc
    have h1 := hel i hi
    rw [cellsI64, Nat.mul_one, List.getElem?_eq_getElem (by omega)] at h1
    have h2 : ([c0, c1, c2, c3, c4, c5, c6, c7].drop i).take 1 = [c] := by
      obtain ⟨hlt, h3⟩ := List.getElem?_eq_some_iff.1 hc
      rw [List.drop_eq_getElem_cons hlt, h3]; rfl
    change DataW.trod enc Tryd.prog w 0 sp held n 2 (([c0, c1, c2, c3, c4, c5, c6, c7].drop i).take 1) = _ at h1
    rw [h2] at h1
    obtain ⟨m, e1, -, w1⟩ := DataW.trod_int Tryd.underlying2 h1
    simp only [List.cons.injEq, and_true] at e1
    exact ⟨m, e1, by simpa [Lit.wf, IntKind.min, IntKind.max, IntKind.signed, IntKind.bits] using w1⟩
  obtain ⟨x0, rfl, b0⟩ := key 0 c0 (by decide) rfl
  obtain ⟨x1, rfl, b1⟩ := key 1 c1 (by decide) rfl
  obtain ⟨x2, rfl, b2⟩ := key 2 c2 (by decide) rfl
  obtain ⟨x3, rfl, b3⟩ := key 3 c3 (by decide) rfl
  obtain ⟨x4, rfl, b4⟩ := key 4 c4 (by decide) rfl
  obtain ⟨x5, rfl, b5⟩ := key 5 c5 (by decide) rfl
  obtain ⟨x6, rfl, b6⟩ := key 6 c6 (by decide) rfl
  obtain ⟨x7, rfl, b7⟩ := key 7 c7 (by decide) rfl
  refine ⟨x0, x1, x2, x3, x4, x5, x6, x7, rfl, fun x hx => ?_⟩
  simp only [List.mem_cons, List.not_mem_nil, or_false] at hx
  rcases hx with rfl | rfl | rfl | rfl | rfl | rfl | rfl | rfl <;> assumption

set_option maxRecDepth 100000 in
set_option maxHeartbeats 4000000 in
theorem exprTold_any (e : Ex) (x0 x1 x2 x3 x4 x5 x6 x7 : Int) (l : List Int) (w : World) (v0 v1 v2 vl : Value) (hx : ∀ x ∈ [x0, x1, x2, x3, x4, x5, x6, x7], -9223372036854775808 ≤ x ∧ x ≤ 9223372036854775807)
    (hr : RdEx w e v0 v1 v2) (hg : RdInts w l vl) (ho : OpsAt w) :
    Calls Tryd.prog 8 #[.agg #[v0, v1, v2], .agg #[.int .i64 x0, .int .i64 x1, .int .i64 x2, .int .i64 x3, .int .i64 x4, .int .i64 x5, .int .i64 x6, .int .i64 x7], vl] w
      fun e' w' => e' = .returned (.bool true) ∧ Below w.heap.size w w' := by
  obtain ⟨al, capl, rfl, hbl, -, -⟩ := id hg
  obtain ⟨a, cap, rfl, rfl, rfl⟩ := id hr.shape
  have hA := ext_alloc (ext_alloc (ext_refl w) (.cells #[.int .u8 e.op, .int .i64 e.n, .slice a e.args.length cap] 29)) (LoBox x0 x1 x2 x3 x4 x5 x6 x7)
  cases hl : largeS e
  · by_cases hll : l.length ≤ 100
    · cases hm : mayS e l.length
      · have HLG := large_any e _ _ _ _ (hr.below hA)
        rw [hl] at HLG
        have HLG := hid HLG
        have HM := hid (may_is hm)
        have HR := hid hr
        have HO := hid ho
        clear hr hg ho hl hm hx
        unfold LoBox at *
        go_enter Tryd.func8, Tryd.ntmps8
        go_wp2_with fail
        refine HLG.out.mono ?_
        rintro e' w1 ⟨rfl, hb1⟩
        have hc1 := bcell hb1
        go_wp2_with fail
        refine (awake_any _ (HO.out.below (ext_trans hA hb1))).mono ?_
        rintro e' w2 ⟨rfl, hb2⟩
        have hE2 := ext_trans (ext_trans hA hb1) hb2
        have q0 : w2.cell? ⟨w.heap.size, 0, none⟩ = some (.int .u8 e.op) := later hb2 (later hb1 (by simp))
        have q1 : w2.cell? ⟨w.heap.size, 1, none⟩ = some (.int .i64 e.n) := later hb2 (later hb1 (by simp))
        have q2 : w2.cell? ⟨w.heap.size, 2, none⟩ = some (.slice a e.args.length cap) := later hb2 (later hb1 (by simp))
        clear hc1 hb1 hb2 hA HLG
        go_wp2_with fail
        refine (HM.out _ _ _ _ (HR.out.below hE2)).mono ?_
        rintro e' w3 ⟨rfl, hb3⟩
        go_wp2_with fail
        go_ret
        exact ⟨rfl, ext_trans hE2 hb3⟩
      · exact exprTold_core e x0 x1 x2 x3 x4 x5 x6 x7 l w _ _ _ al capl hx hr hg ho hll (largeS_size hl) hl hm
    · have HLG := large_any e _ _ _ _ (hr.below hA)
      rw [hl] at HLG
      have HLG := hid HLG
      have HO := hid ho
      clear hr hg ho hl hx
      unfold LoBox at *
      go_enter Tryd.func8, Tryd.ntmps8
      go_wp2_with fail
      refine HLG.out.mono ?_
      rintro e' w1 ⟨rfl, hb1⟩
      have hE := ext_trans hA hb1
      go_wp2_with fail
      refine (awake_any _ (HO.out.below hE)).mono ?_
      rintro e' w2 ⟨rfl, hb2⟩
      go_wp2_with fail
      go_ret
      exact ⟨rfl, ext_trans hE hb2⟩
  · have HLG := large_any e _ _ _ _ (hr.below hA)
    rw [hl] at HLG
    have HLG := hid HLG
    have HO := hid ho
    clear hr hg ho hl hx
    unfold LoBox at *
    go_enter Tryd.func8, Tryd.ntmps8
    go_wp2_with fail
    refine HLG.out.mono ?_
    rintro e' w1 ⟨rfl, hb1⟩
    have hE := ext_trans hA hb1
    go_wp2_with fail
    refine (awake_any _ (HO.out.below hE)).mono ?_
    rintro e' w2 ⟨rfl, hb2⟩
    go_wp2_with fail
    go_ret
    exact ⟨rfl, ext_trans hE hb2⟩
end Go.Proofs.YtonckpblbdopmaaDoor
