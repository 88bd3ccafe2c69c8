/-
  The law ExprTold, walked.
-/
import Derived.Test.YtonckpblbdopmaaDoorExC2
import Derived.Test.YtonckpblbdopmaaDoorExL3
import Derived.Test.YtonckpblbdopmaaDoorApp
namespace Go.Proofs.YtonckpblbdopmaaDoor
set_option linter.unusedVariables false
open Go Go.RowKit

theorem told {lo go : List Int} (hlo : lo.length = 8) : ∀ (m : Nat) (e : Ex), wholeS m e = true → belowS go.length e = true → (comeS lo go m e).2 = 0 := by
  intro m
  induction m with
  | zero => intro e h; simp [wholeS] at h
  | succ m ih =>
    intro e h hb
    cases e with | mk op n args =>
    rcases whole_cases h with ⟨rfl, rfl⟩ | ⟨rfl, rfl, h0, h1⟩ | ⟨rfl, rfl, h0, h1⟩ | ⟨h1, h2, rfl, x, y, rfl, hx, hy⟩
    · rfl
    · rw [comeS_leaf2]; unfold atS; rw [if_pos (by omega)]
    · rw [comeS_leaf3]; unfold atS
      simp [belowS] at hb
      rw [if_pos (by omega)]
    · simp only [belowS, belowL, Bool.and_eq_true] at hb
      rw [comeS_two lo go m op 0 x y h1, if_pos (ih x hx hb.2.1), if_pos (ih y hy hb.2.2.1)]
theorem told_eval {lo go : List Int} (hlo : lo.length = 8) {e : Ex} (h : mayS e go.length = true) : (evalS lo go e).2 = 0 := by
  simp only [mayS, Bool.and_eq_true] at h
  unfold evalS
  rw [if_pos h.1]
  exact told hlo 6 e h.1 h.2

theorem RdInts.src {w : World} {l : List Int} {a : Option Addr} {cap : Nat} (h : RdInts w l (.slice a l.length cap)) : 0 < l.length → ∃ ad', a = some ad' ∧ ∀ (j : Nat) (u : Value), (l.map (Value.int .i64))[j]? = some u → w.cell? (ad'.add j) = some u := by
  intro hp
  obtain ⟨a', cap', e0, -, -, h2⟩ := h
  simp only [Value.slice.injEq] at e0
  obtain ⟨rfl, -, rfl⟩ := e0
  obtain ⟨b, off, rfl, hc⟩ := h2 (by intro h; subst h; simp at hp)
  refine ⟨_, rfl, fun j u hu => ?_⟩
  simp only [List.getElem?_map, Option.map_eq_some_iff] at hu
  obtain ⟨x, hx, rfl⟩ := hu
  obtain ⟨hj, rfl⟩ := List.getElem?_eq_some_iff.1 hx
  have := hc j hj
  unfold Addr.add
  split
  · rename_i h; subst h; simpa using this
  · exact this
theorem RdInts.app {w : World} {l : List Int} {A : Addr} {c B : Nat} {e : TypeId} (hl : l.length ≤ 9223372036854775807) (hb : ∀ x ∈ l, -9223372036854775808 ≤ x ∧ x ≤ 9223372036854775807)
    (h : 0 < l.length → ∃ g cells, A = ⟨g, 0, none⟩ ∧ B ≤ g ∧ Blk w g cells e ∧ l.length * 1 ≤ cells.size ∧ ∀ (j : Nat) (u : Value), (l.map (Value.int .i64))[j]? = some u → cells[j]? = some u) : RdInts w l (.slice (some A) l.length c) := by
  refine ⟨_, c, rfl, hl, hb, fun hne => ?_⟩
  obtain ⟨g, cells, rfl, -, hk, -, hc⟩ := h (List.length_pos_iff.2 hne)
  refine ⟨g, 0, rfl, fun k hk' => ?_⟩
  rw [Nat.zero_add]
  exact hk.cell k (hc k _ (by simp [List.getElem?_eq_getElem hk']))

theorem RdInts.bound {w : World} {l : List Int} {v : Value} (h : RdInts w l v) : ∀ x ∈ l, -9223372036854775808 ≤ x ∧ x ≤ 9223372036854775807 := by
  obtain ⟨a', cap', e0, -, h1, h2⟩ := h
  exact h1
theorem infoI64 : (Tryd.prog.info? 2).map (fun i => (i.zero, i.size, i.bytes)) = some (some (.int .i64 0), 1, 8) := by kernel_rfl

/-- The boxes of ExprTold. -/
def LoBox (x0 x1 x2 x3 x4 x5 x6 x7 : Int) : Obj := .cells #[.int .i64 x0, .int .i64 x1, .int .i64 x2, .int .i64 x3, .int .i64 x4, .int .i64 x5, .int .i64 x6, .int .i64 x7] 44

set_option maxRecDepth 100000 in
set_option maxHeartbeats 4000000 in
theorem exprTold_core (e : Ex) (x0 x1 x2 x3 x4 x5 x6 x7 : Int) (l : List Int) (w : World) (v0 v1 v2 : Value) (al : Option Addr) (capl : Nat) (hx : ∀ x ∈ [x0, x1, x2, x3, x4, x5, x6, x7], -9223372036854775808 ≤ x ∧ x ≤ 9223372036854775807)
    (hr : RdEx w e v0 v1 v2) (hg : RdInts w l (.slice al l.length capl)) (ho : OpsAt w) (hll : l.length ≤ 100) (hsz : sizeE e ≤ 400) (hl : largeS e = false) (hm : mayS e l.length = true) :
    Calls Tryd.prog 8 #[.agg #[v0, v1, v2], .agg #[.int .i64 x0, .int .i64 x1, .int .i64 x2, .int .i64 x3, .int .i64 x4, .int .i64 x5, .int .i64 x6, .int .i64 x7], .slice al l.length capl] w
      fun e' w' => e' = .returned (.bool true) ∧ Below w.heap.size w w' := by
  have HR := hid hr
  obtain ⟨a, cap, rfl, rfl, rfl⟩ := hr.shape
  have hA := ext_alloc (ext_alloc (ext_refl w) (.cells #[.int .u8 e.op, .int .i64 e.n, .slice a e.args.length cap] 29)) (LoBox x0 x1 x2 x3 x4 x5 x6 x7)
  have HG := hid hg
  have HO := hid ho
  have hev : ∃ V, evalS [x0, x1, x2, x3, x4, x5, x6, x7] l e = (V, 0) := ⟨_, Prod.ext rfl (told_eval rfl hm)⟩
  obtain ⟨V, hV⟩ := hev
  have HEV := hid (fun w v0 v1 v2 vl vg h1 h2 h3 h4 => by have := eval_any [x0, x1, x2, x3, x4, x5, x6, x7] l e w v0 v1 v2 vl vg h1 h2 h3 h4; rw [hV] at this; exact this)
  have HLG := large_any e _ _ _ _ (HR.out.below hA)
  rw [hl] at HLG
  have HLG := hid HLG
  have HM := hid (may_is hm)
  have HX := hid hx
  have hbl : Blk ((w.alloc (.cells #[.int .u8 e.op, .int .i64 e.n, .slice a e.args.length cap] 29)).alloc (LoBox x0 x1 x2 x3 x4 x5 x6 x7)) (w.heap.size + 1) #[.int .i64 x0, .int .i64 x1, .int .i64 x2, .int .i64 x3, .int .i64 x4, .int .i64 x5, .int .i64 x6, .int .i64 x7] 44 := Blk.new' _ _ _ (by simp)
  have HBL := hid hbl
  have hrl : ∀ w', Blk w' (w.heap.size + 1) #[.int .i64 x0, .int .i64 x1, .int .i64 x2, .int .i64 x3, .int .i64 x4, .int .i64 x5, .int .i64 x6, .int .i64 x7] 44 → RdInts w' [x0, x1, x2, x3, x4, x5, x6, x7] (.slice (some ⟨w.heap.size + 1, 0, none⟩) 8 8) := by
    intro w' hb
    refine ⟨_, 8, rfl, by simp, HX.out, fun _ => ⟨w.heap.size + 1, 0, rfl, fun k hk => ?_⟩⟩
    rw [Nat.zero_add]
    match k, hk with
    | 0, _ => exact hb.cell 0 rfl
    | 1, _ => exact hb.cell 1 rfl
    | 2, _ => exact hb.cell 2 rfl
    | 3, _ => exact hb.cell 3 rfl
    | 4, _ => exact hb.cell 4 rfl
    | 5, _ => exact hb.cell 5 rfl
    | 6, _ => exact hb.cell 6 rfl
    | 7, _ => exact hb.cell 7 rfl
  have HRL := hid hrl
  clear hr hg ho hV hl hm hx hbl hrl
  unfold LoBox at *
  go_enter Tryd.func8, Tryd.ntmps8
  go_wp2_with fail
  refine HLG.out.mono ?_
  rintro e' w1 ⟨rfl, hb1⟩
  have hc1 := bcell hb1
  go_wp2_with fail
  refine (awake_any _ (HO.out.below (ext_trans hA hb1))).mono ?_
  rintro e' w2 ⟨rfl, hb2⟩
  have hE2 := ext_trans (ext_trans hA hb1) hb2
  have HB2 := hid (Blk.below hb2 (Blk.below hb1 HBL.out))
  have q0 : w2.cell? ⟨w.heap.size, 0, none⟩ = some (.int .u8 e.op) := later hb2 (later hb1 (by simp))
  have q1 : w2.cell? ⟨w.heap.size, 1, none⟩ = some (.int .i64 e.n) := later hb2 (later hb1 (by simp))
  have q2 : w2.cell? ⟨w.heap.size, 2, none⟩ = some (.slice a e.args.length cap) := later hb2 (later hb1 (by simp))
  clear hc1 hb1 hb2 hA HBL HLG
  go_wp2_with fail
  refine (HM.out _ _ _ _ (HR.out.below hE2)).mono ?_
  rintro e' w3 ⟨rfl, hb3⟩
  have hE3 := ext_trans hE2 hb3
  have HB3 := hid (Blk.below hb3 HB2.out)
  have q0 := later hb3 q0
  have q1 := later hb3 q1
  have q2 := later hb3 q2
  clear hb3 hE2 HB2
  go_wp2_with fail
  go_region_held3 (fun w' => w'.cell? ⟨w.heap.size, 0, none⟩ = some (.int .u8 e.op) ∧ w'.cell? ⟨w.heap.size, 1, none⟩ = some (.int .i64 e.n) ∧ w'.cell? ⟨w.heap.size, 2, none⟩ = some (.slice a e.args.length cap))
    (first | go_keep | (go_split_ands; refine ⟨?_, ?_, ?_⟩ <;> exact later hb4 (by assumption)))
    (first | (go_at_call 15; refine (HEV.out _ _ _ _ _ _ (HR.out.below (ext_drew hE3)) (HRL.out _ HB3.out.drew) (HG.out.below (ext_drew hE3)) (HO.out.below (ext_drew hE3))).mono ?_; rintro e' w4 ⟨rfl, hb4⟩))
  have hE4 := ext_trans (ext_drew hE3) hb4
  have HB4 := hid (Blk.below (ext_trans (ext_drew (ext_refl _)) hb4) HB3.out)
  obtain ⟨i0, hi0, hz0, hz1, hz2⟩ := info_parts infoI64
  have HBL8 : Hid (l.length * 8 ≤ 140737488355328) := hid (by omega)
  have HGB : Hid (∀ x ∈ l, -9223372036854775808 ≤ x ∧ x ≤ 9223372036854775807) := hid HG.out.bound
  have Q0 := hid (later (ext_trans (ext_drew (ext_refl _)) hb4) q0)
  have Q1 := hid (later (ext_trans (ext_drew (ext_refl _)) hb4) q1)
  have Q2 := hid (later (ext_trans (ext_drew (ext_refl _)) hb4) q2)
  have q0 := Q0.out
  have q1 := Q1.out
  have q2 := Q2.out
  clear hE3 HB3 hb4
  go_wp2_with fail
  go_region_held3 (fun w' => w'.cell? ⟨w.heap.size, 0, none⟩ = some (.int .u8 e.op) ∧ w'.cell? ⟨w.heap.size, 1, none⟩ = some (.int .i64 e.n) ∧ w'.cell? ⟨w.heap.size, 2, none⟩ = some (.slice a e.args.length cap))
    (first | go_keep | (go_split_ands; refine ⟨?_, ?_, ?_⟩ <;> (first | exact later (by repeat (first | assumption | exact ext_refl _ | refine ext_drew ?_ | refine ext_alloc ?_ _ | refine ext_trans ?_ (by assumption))) Q0.out | exact later (by repeat (first | assumption | exact ext_refl _ | refine ext_drew ?_ | refine ext_alloc ?_ _ | refine ext_trans ?_ (by assumption))) Q1.out | exact later (by repeat (first | assumption | exact ext_refl _ | refine ext_drew ?_ | refine ext_alloc ?_ _ | refine ext_trans ?_ (by assumption))) Q2.out)))
    (first
      | (go_at_call 23; refine (copy_any (sizeE e) e _ _ _ _ (Nat.le_refl _) (by omega) (HR.out.below (by repeat (first | assumption | exact ext_refl _ | refine ext_drew ?_ | refine ext_alloc ?_ _ | refine ext_trans ?_ (by assumption))))).mono ?_; rintro e' wc ⟨a3, c3, rfl, hbc, hcp1, hcp2⟩; have HCP := hid hcp1; clear hcp1 hcp2)
      | (refine step_append_empty _ (by rfl) _ _ _ (by rfl) 2 i0 _ 1 8 Tryd.underlying36 hi0 hz0 hz1 hz2 rfl (by decide) _ (by rfl) (some ⟨w.heap.size + 1, 0, none⟩) 8 8 ([x0, x1, x2, x3, x4, x5, x6, x7].map (Value.int .i64)) (by rfl) rfl (RdInts.src (HRL.out _ (Blk.below (by repeat (first | assumption | exact ext_refl _ | refine ext_drew ?_ | refine ext_alloc ?_ _ | refine ext_trans ?_ (by assumption))) HB4.out))) (by simp [Value.oneCell']) (by decide) (by decide) ?_; intro A1 c1 wa hba hra; have HA1 := hid (RdInts.app (l := [x0, x1, x2, x3, x4, x5, x6, x7]) (c := c1) (by simp) HX.out hra); clear hra)
      | (refine step_append_empty _ (by rfl) _ _ _ (by rfl) 2 i0 _ 1 8 Tryd.underlying36 hi0 hz0 hz1 hz2 rfl (by decide) _ (by rfl) al l.length capl (l.map (Value.int .i64)) (by rfl) (by simp) (RdInts.src (HG.out.below (by repeat (first | assumption | exact ext_refl _ | refine ext_drew ?_ | refine ext_alloc ?_ _ | refine ext_trans ?_ (by assumption))))) (by simp [Value.oneCell']) (by unfold maxLen; omega) HBL8.out ?_; intro A2 c2 wb hbb hrb; have HA2 := hid (RdInts.app (l := l) (c := c2) (by omega) HGB.out hrb); clear hrb)
      | (go_at_call 15; refine (HEV.out _ _ _ _ _ _ (HCP.out _ (Agree.of_below (by repeat (first | assumption | exact ext_refl _ | refine ext_drew ?_ | refine ext_alloc ?_ _ | refine ext_trans ?_ (by assumption))))) (HA1.out.below (by repeat (first | assumption | exact ext_refl _ | refine ext_drew ?_ | refine ext_alloc ?_ _ | refine ext_trans ?_ (by assumption)))) (HA2.out.below (by repeat (first | assumption | exact ext_refl _ | refine ext_drew ?_ | refine ext_alloc ?_ _ | refine ext_trans ?_ (by assumption)))) (HO.out.below (by repeat (first | assumption | exact ext_refl _ | refine ext_drew ?_ | refine ext_alloc ?_ _ | refine ext_trans ?_ (by assumption))))).mono ?_; rintro e' we ⟨rfl, hbe⟩))
  all_goals go_wp2_with fail
  all_goals go_ret
  all_goals exact ⟨rfl, by repeat (first | assumption | exact ext_refl _ | refine ext_drew ?_ | refine ext_alloc ?_ _ | refine ext_trans ?_ (by assumption))⟩
end Go.Proofs.YtonckpblbdopmaaDoor
