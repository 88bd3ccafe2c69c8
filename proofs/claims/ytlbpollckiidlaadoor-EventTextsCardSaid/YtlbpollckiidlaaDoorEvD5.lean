/-
  Walk: the document's Parse.
-/
import Derived.Test.YtlbpollckiidlaaDoorEvD4
import Derived.Test.YtlbpollckiidlaaDoorEvR2
namespace Go.Proofs.YtlbpollckiidlaaDoor
set_option linter.unusedVariables false
set_option linter.unusedSimpArgs false
open Go Go.RowKit
theorem toks_ne : ∀ (l cur : List UInt8), toks cur l ≠ []
  | [], cur => by simp [toks]
  | c :: r, cur => by
    rw [toks]; split
    · simp
    · exact toks_ne r _
def numAt (rest : List (List UInt8)) (j : Nat) : Int × Bool := match rest[j]? with | some t => rnum t | none => (0, true)
def mkE (k : Nat) (th a b : Int) : Ev :=
  if k = 1 then ⟨1, th, a, 0, b, 0, 0⟩ else if k = 2 then ⟨2, th, 0, a, b, 0, 0⟩ else if k = 3 ∨ k = 8 then ⟨(k : Int), th, 0, a, 0, b, 0⟩
  else if k = 4 ∨ k = 6 ∨ k = 9 ∨ k = 11 then ⟨(k : Int), th, 0, a, 0, 0, 0⟩ else if k = 5 ∨ k = 7 then ⟨(k : Int), th, 0, 0, a, 0, 0⟩ else if k = 10 then ⟨10, th, 0, b, 0, 0, a⟩ else ⟨(k : Int), th, 0, 0, 0, 0, 0⟩
def rparseT (l : List UInt8) (t0 t1 : List UInt8) (rest : List (List UInt8)) : Ev × Int :=
  match kindOf t1 with
  | none => (evZ, 4)
  | some k => if (((rnum t0).2 && (numAt rest 0).2) && (numAt rest 1).2) = false ∨ (rnum t0).1 < 0 ∨ 5 < (rnum t0).1 ∨ (k = 10 ∧ ((numAt rest 0).1 < 0 ∨ 9 < (numAt rest 0).1)) then (evZ, 4)
    else if mayT (mkE k (rnum t0).1 (numAt rest 0).1 (numAt rest 1).1) = true ∧ showT (mkE k (rnum t0).1 (numAt rest 0).1 (numAt rest 1).1) = l then (mkE k (rnum t0).1 (numAt rest 0).1 (numAt rest 1).1, 0) else (evZ, 4)
def rparse (l : List UInt8) : Ev × Int := match toks [] l with | t0 :: t1 :: rest => rparseT l t0 t1 rest | _ => (evZ, 4)
def RParseP (l : List UInt8) (w : World) (e : Ending) (w' : World) : Prop := e = .returned (.tuple #[evA (rparse l).1, .int .i64 (rparse l).2]) ∧ Below w.heap.size w w'
def xM (rest : List (List UInt8)) (m j : Nat) : Int := if j < m then (numAt rest j).1 else 0
def okM (rest : List (List UInt8)) (m j : Nat) : Bool := if j < m then (numAt rest j).2 else true
theorem numAt_none {rest : List (List UInt8)} {j : Nat} (h : rest.length ≤ j) : numAt rest j = (0, true) := by
  unfold numAt; rw [List.getElem?_eq_none h]
theorem xM_end {rest : List (List UInt8)} {m j : Nat} (hj : j < 2) (h : m = 2 ∨ rest.length ≤ m) : xM rest m j = (numAt rest j).1 ∧ okM rest m j = (numAt rest j).2 := by
  unfold xM okM
  by_cases hm : j < m
  · rw [if_pos hm, if_pos hm]; exact ⟨rfl, rfl⟩
  · rw [if_neg hm, if_neg hm, numAt_none (by omega)]; exact ⟨rfl, rfl⟩
theorem okstep {rest : List (List UInt8)} {ao o no : Bool} {nv : Int} (m : Nat) (hm : m < 2) (h : o = ((ao && okM rest m 0) && okM rest m 1)) (hn : numAt rest m = (nv, no)) : (o && no) = ((ao && okM rest (m + 1) 0) && okM rest (m + 1) 1) := by
  subst h
  match m, hm with
  | 0, _ =>
    have e1 : okM rest 0 0 = true := rfl
    have e2 : okM rest 0 1 = true := rfl
    have e3 : okM rest (0 + 1) 0 = no := by unfold okM; rw [if_pos (by omega), hn]
    have e4 : okM rest (0 + 1) 1 = true := rfl
    rw [e1, e2, e3, e4]; cases ao <;> cases no <;> rfl
  | 1, _ =>
    have e1 : okM rest 1 1 = true := rfl
    have e2 : okM rest (1 + 1) 0 = okM rest 1 0 := rfl
    have e3 : okM rest (1 + 1) 1 = no := by unfold okM; rw [if_pos (by omega), hn]
    rw [e1, e2, e3]; cases ao <;> cases no <;> cases okM rest 1 0 <;> rfl
theorem xstep0 {rest : List (List UInt8)} {no : Bool} {nv x0 x1 : Int} (h : x0 = xM rest 0 0 ∧ x1 = xM rest 0 1) (hn : numAt rest 0 = (nv, no)) : nv = xM rest (0 + 1) 0 ∧ x1 = xM rest (0 + 1) 1 :=
  ⟨by unfold xM; rw [if_pos (by omega), hn], h.2⟩
theorem xstep1 {rest : List (List UInt8)} {no : Bool} {nv x0 x1 : Int} (h : x0 = xM rest 1 0 ∧ x1 = xM rest 1 1) (hn : numAt rest 1 = (nv, no)) : x0 = xM rest (1 + 1) 0 ∧ nv = xM rest (1 + 1) 1 :=
  ⟨h.1, by unfold xM; rw [if_pos (by omega), hn]⟩
theorem mkE_ok {k : Nat} {a x0 x1 : Int} (hk : k ≤ 13) (ha : -9223372036854775808 ≤ a ∧ a ≤ 9223372036854775807) (h0 : -9223372036854775808 ≤ x0 ∧ x0 ≤ 9223372036854775807) (h1 : -9223372036854775808 ≤ x1 ∧ x1 ≤ 9223372036854775807) (h10 : k = 10 → 0 ≤ x0 ∧ x0 ≤ 9) : EvOk (mkE k a x0 x1) := by
  unfold mkE EvOk
  repeat' split
  all_goals (dsimp only; omega)
theorem xnum_ok (low : Bool) (t : List UInt8) : -9223372036854775808 ≤ xnum low t ∧ xnum low t ≤ 9223372036854775807 := by
  unfold xnum
  rw [wrap_same]
  split <;> (unfold wrap64; omega)
theorem rnumT_ok (low : Bool) (t s : List UInt8) : -9223372036854775808 ≤ (rnumT low t s).1 ∧ (rnumT low t s).1 ≤ 9223372036854775807 := by
  unfold rnumT
  split
  · exact ⟨by decide, by decide⟩
  · exact xnum_ok low t
theorem rnum_ok (s : List UInt8) : -9223372036854775808 ≤ (rnum s).1 ∧ (rnum s).1 ≤ 9223372036854775807 := by
  unfold rnum
  split
  · exact ⟨by decide, by decide⟩
  · split <;> exact rnumT_ok _ _ _
theorem numAt_ok (rest : List (List UInt8)) (j : Nat) : -9223372036854775808 ≤ (numAt rest j).1 ∧ (numAt rest j).1 ≤ 9223372036854775807 := by
  unfold numAt
  split
  · exact rnum_ok _
  · exact ⟨by decide, by decide⟩
/-- The tokens in memory. -/
theorem owns_cells {w : World} {B : Nat} {v : Value} {T : List (List UInt8)} (hne : T ≠ []) (h : w.ownsRow B 9 1 v T.length (T.map strV)) :
    ∃ g cap cur, v = .slice (some ⟨g, 0, none⟩) T.length cap ∧ B ≤ g ∧ Blk w g cur 9 ∧ ∀ (j : Nat) t, T[j]? = some t → cur[j]? = some (strV t) := by
  obtain ⟨-, ⟨-, h0⟩ | ⟨g, cap, cur, h1, h2, h3, -, -, -, h5⟩⟩ := h
  · exact absurd (List.length_eq_zero_iff.1 h0) hne
  · refine ⟨g, cap, cur, h1, h2, h3, fun j t hj => ?_⟩
    have h6 := congrArg (fun l : List Value => l[j]?) h5
    simp only [List.getElem?_map, hj, Option.map_some, Nat.mul_one] at h6
    rw [List.getElem?_take] at h6
    split at h6
    · rw [← Array.getElem?_toList]; exact h6
    · cases h6
set_option maxRecDepth 100000 in
set_option maxHeartbeats 4000000 in
theorem rparse_few (l : List UInt8) (hl : l.length ≤ 1000) (w : World) (hT : (toks [] l).length < 2) : Calls Tryd.prog 14 #[.string ⟨l.toArray⟩] w (RParseP l w) := by
  have HSP := hid (fun W => rsplit_any l hl W)
  have HR : Hid (rparse l = (evZ, 4)) := hid (by
    unfold rparse
    split
    · rename_i t0 t1 rest h
      rw [h] at hT; simp at hT; omega
    · rfl)
  unfold SplitP at HSP
  have HNE := hid (toks_ne l [])
  generalize toks [] l = T at HSP HNE hT
  have g1 : decide ((T.length : Int) < 2) = true := by rw [decide_eq_true_iff]; omega
  have g2 : decide (T.length < 2) = true := by rw [decide_eq_true_iff]; omega
  have HB0 : Hid (Below w.heap.size w (w.alloc (.cells #[.int .u8 0, .int .i64 0, .int .i64 0, .int .i64 0, .int .i64 0, .int .i64 0, .int .u8 0] 23))) := hid (ext_alloc (ext_refl _) _)
  have HZ0 : Hid (Blk (w.alloc (.cells #[.int .u8 0, .int .i64 0, .int .i64 0, .int .i64 0, .int .i64 0, .int .i64 0, .int .u8 0] 23)) w.heap.size #[.int .u8 0, .int .i64 0, .int .i64 0, .int .i64 0, .int .i64 0, .int .i64 0, .int .u8 0] 23) := hid (Blk.new _ _ _)
  clear hT hl
  go_enter Tryd.func14, Tryd.ntmps14
  go_wp2_with fail
  refine (HSP.out _).mono ?_
  rintro e' w1 ⟨v, rfl, ho, hb⟩
  obtain ⟨g, cap, cur, rfl, -, -, -⟩ := owns_cells HNE.out ho
  have HB1 := hid (ext_trans HB0.out hb)
  have HZ1 := hid (HZ0.out.below hb)
  clear hb ho HB0 HZ0
  have z0 := HZ1.out.free 0
  have z1 := HZ1.out.free 1
  have z2 := HZ1.out.free 2
  have z3 := HZ1.out.free 3
  have z4 := HZ1.out.free 4
  have z5 := HZ1.out.free 5
  have z6 := HZ1.out.free 6
  have t0 := HZ1.out.cell 0 rfl
  have t1 := HZ1.out.cell 1 rfl
  have t2 := HZ1.out.cell 2 rfl
  have t3 := HZ1.out.cell 3 rfl
  have t4 := HZ1.out.cell 4 rfl
  have t5 := HZ1.out.cell 5 rfl
  have t6 := HZ1.out.cell 6 rfl
  have HBZ := hid (low7 HB1.out (b := w.heap.size) (Nat.le_refl _) (.int .u8 0) (.int .i64 0) (.int .i64 0) (.int .i64 0) (.int .i64 0) (.int .i64 0) (.int .u8 0))
  have HRZ := hid (set7 HZ1.out (.int .u8 0) (.int .i64 0) (.int .i64 0) (.int .i64 0) (.int .i64 0) (.int .i64 0) (.int .u8 0))
  have q0 := HRZ.out.cell 0 rfl
  have q1 := HRZ.out.cell 1 rfl
  have q2 := HRZ.out.cell 2 rfl
  have q3 := HRZ.out.cell 3 rfl
  have q4 := HRZ.out.cell 4 rfl
  have q5 := HRZ.out.cell 5 rfl
  have q6 := HRZ.out.cell 6 rfl
  clear HRZ
  go_wp2_with fail
  exact bodyPost_ret (v := .tuple #[evA evZ, .int .i64 4]) (by simp [results, Tryd.results14, go_sem, q0, q1, q2, q3, q4, q5, q6, evA, evZ]) rfl (by unfold RParseP; rw [HR.out]; exact ⟨rfl, HBZ.out⟩)
set_option maxRecDepth 100000 in
set_option maxHeartbeats 4000000 in
theorem rparse_nokind (l : List UInt8) (hl : l.length ≤ 1000) (w : World) (hN : NamesR w) (t0 t1 : List UInt8) (rest : List (List UInt8)) (hT : toks [] l = t0 :: t1 :: rest) (hk : kindOf t1 = none) : Calls Tryd.prog 14 #[.string ⟨l.toArray⟩] w (RParseP l w) := by
  have HR : Hid (rparse l = (evZ, 4)) := hid (by unfold rparse rparseT; rw [hT]; dsimp only; rw [hk])
  have HSP := hid (fun W => rsplit_any l hl W)
  unfold SplitP at HSP
  rw [hT] at HSP
  have HB0 : Hid (Below w.heap.size w (w.alloc (.cells #[.int .u8 0, .int .i64 0, .int .i64 0, .int .i64 0, .int .i64 0, .int .i64 0, .int .u8 0] 23))) := hid (ext_alloc (ext_refl _) _)
  have HZ0 : Hid (Blk (w.alloc (.cells #[.int .u8 0, .int .i64 0, .int .i64 0, .int .i64 0, .int .i64 0, .int .i64 0, .int .u8 0] 23)) w.heap.size #[.int .u8 0, .int .i64 0, .int .i64 0, .int .i64 0, .int .i64 0, .int .i64 0, .int .u8 0] 23) := hid (Blk.new _ _ _)
  have HKD := hid (fun W (hW : Below w.heap.size w W) => rkind_any t1 W (hN.below hW))
  have g1 : decide (((t0 :: t1 :: rest).length : Int) < 2) = false := by rw [decide_eq_false_iff_not]; simp; omega
  have g2 : decide ((t0 :: t1 :: rest).length < 2) = false := by rw [decide_eq_false_iff_not]; simp
  have g3 : decide ((rest.length : Int) + 1 + 1 < 2) = false := by rw [decide_eq_false_iff_not]; omega
  have g4 : (1 : Int) < (rest.length : Int) + 1 + 1 := by omega
  have g5 : (0 : Int) < (rest.length : Int) + 1 + 1 := by omega
  rw [hk] at HKD
  unfold kindV at HKD
  simp only [Option.getD_none, Option.isSome_none] at HKD
  clear hT hl hk hN
  go_enter Tryd.func14, Tryd.ntmps14
  go_wp2_with fail
  refine (HSP.out _).mono ?_
  rintro e' w1 ⟨v, rfl, ho, hb⟩
  obtain ⟨g, cap, cur, rfl, -, hcur, hel⟩ := owns_cells (by simp) ho
  have HB1 := hid (ext_trans HB0.out hb)
  have HZ1 := hid (HZ0.out.below hb)
  have c1 := hcur.cell 1 (hel 1 t1 rfl)
  unfold strV at c1
  clear hb ho HB0 HZ0 hel hcur
  go_wp2_with fail
  refine (HKD.out _ HB1.out).mono ?_
  rintro e' w2 ⟨rfl, rfl⟩
  have z0 := HZ1.out.free 0
  have z1 := HZ1.out.free 1
  have z2 := HZ1.out.free 2
  have z3 := HZ1.out.free 3
  have z4 := HZ1.out.free 4
  have z5 := HZ1.out.free 5
  have z6 := HZ1.out.free 6
  have t0 := HZ1.out.cell 0 rfl
  have t1 := HZ1.out.cell 1 rfl
  have t2 := HZ1.out.cell 2 rfl
  have t3 := HZ1.out.cell 3 rfl
  have t4 := HZ1.out.cell 4 rfl
  have t5 := HZ1.out.cell 5 rfl
  have t6 := HZ1.out.cell 6 rfl
  have HBZ := hid (low7 HB1.out (b := w.heap.size) (Nat.le_refl _) (.int .u8 0) (.int .i64 0) (.int .i64 0) (.int .i64 0) (.int .i64 0) (.int .i64 0) (.int .u8 0))
  have HRZ := hid (set7 HZ1.out (.int .u8 0) (.int .i64 0) (.int .i64 0) (.int .i64 0) (.int .i64 0) (.int .i64 0) (.int .u8 0))
  have q0 := HRZ.out.cell 0 rfl
  have q1 := HRZ.out.cell 1 rfl
  have q2 := HRZ.out.cell 2 rfl
  have q3 := HRZ.out.cell 3 rfl
  have q4 := HRZ.out.cell 4 rfl
  have q5 := HRZ.out.cell 5 rfl
  have q6 := HRZ.out.cell 6 rfl
  clear HRZ
  go_wp2_with fail
  exact bodyPost_ret (v := .tuple #[evA evZ, .int .i64 4]) (by simp [results, Tryd.results14, go_sem, q0, q1, q2, q3, q4, q5, q6, evA, evZ]) rfl (by unfold RParseP; rw [HR.out]; exact ⟨rfl, HBZ.out⟩)
set_option maxRecDepth 100000 in
set_option maxHeartbeats 4000000 in
theorem rparse_kind (l : List UInt8) (hl : l.length ≤ 1000) (w : World) (hN : NamesR w) (t0 t1 : List UInt8) (rest : List (List UInt8)) (hT : toks [] l = t0 :: t1 :: rest) (k : Nat) (hk : kindOf t1 = some k) : Calls Tryd.prog 14 #[.string ⟨l.toArray⟩] w (RParseP l w) := by
  have HPT : Hid (rparse l = rparseT l t0 t1 rest) := hid (by unfold rparse; rw [hT])
  have HSP := hid (fun W => rsplit_any l hl W)
  unfold SplitP at HSP
  rw [hT] at HSP
  have HB0 : Hid (Below w.heap.size w (w.alloc (.cells #[.int .u8 0, .int .i64 0, .int .i64 0, .int .i64 0, .int .i64 0, .int .i64 0, .int .u8 0] 23))) := hid (ext_alloc (ext_refl _) _)
  have HZ0 : Hid (Blk (w.alloc (.cells #[.int .u8 0, .int .i64 0, .int .i64 0, .int .i64 0, .int .i64 0, .int .i64 0, .int .u8 0] 23)) w.heap.size #[.int .u8 0, .int .i64 0, .int .i64 0, .int .i64 0, .int .i64 0, .int .i64 0, .int .u8 0] 23) := hid (Blk.new _ _ _)
  have HKD := hid (fun W (hW : Below w.heap.size w W) => rkind_any t1 W (hN.below hW))
  have g1 : decide (((t0 :: t1 :: rest).length : Int) < 2) = false := by rw [decide_eq_false_iff_not]; simp; omega
  have g2 : decide ((t0 :: t1 :: rest).length < 2) = false := by rw [decide_eq_false_iff_not]; simp
  have g3 : decide ((rest.length : Int) + 1 + 1 < 2) = false := by rw [decide_eq_false_iff_not]; omega
  have g4 : (1 : Int) < (rest.length : Int) + 1 + 1 := by omega
  have g5 : (0 : Int) < (rest.length : Int) + 1 + 1 := by omega
  have hmem : ∀ t ∈ t0 :: t1 :: rest, t.length ≤ 1000 := fun t ht => by
    have := toks_mem l [] t (by rw [hT]; exact ht)
    simp at this; omega
  have hfew : (t0 :: t1 :: rest).length ≤ 1001 := by rw [← hT]; have := toks_len l []; omega
  have HRL : Hid (rest.length ≤ 999) := hid (by simp at hfew; omega)
  have HN0 := hid (fun W => rnum_any t0 W (hmem t0 (by simp)))
  have HNR := hid (fun (j : Nat) t (ht : rest[j]? = some t) W => rnum_any t W (hmem t (by have := List.mem_of_getElem? ht; simp [this])))
  have HSH := hid (fun e (he : EvOk e) W (hW : Below w.heap.size w W) => rshow_any e W he (hN.below hW))
  have HK13 := hid (kindOf_is hk)
  rw [hk] at HKD
  unfold kindV at HKD
  simp only [Option.getD_some, Option.isSome_some] at HKD
  have HKK := hid hk
  unfold NumP at HN0 HNR
  clear hT hl hk hN hmem hfew
  go_enter Tryd.func14, Tryd.ntmps14
  go_wp2_with fail
  refine (HSP.out _).mono ?_
  rintro e' w1 ⟨v, rfl, ho, hb⟩
  obtain ⟨g, cap, cur, rfl, hg, hcur, hel⟩ := owns_cells (by simp) ho
  have HB1 := hid (ext_trans HB0.out hb)
  have HZ1 := hid (HZ0.out.below hb)
  have HG : Hid (w.heap.size < g) := hid (by have h0 : (w.alloc (.cells #[.int .u8 0, .int .i64 0, .int .i64 0, .int .i64 0, .int .i64 0, .int .i64 0, .int .u8 0] 23)).heap.size = w.heap.size + 1 := Array.size_push ..; omega)
  have HC1 := hid hcur
  have HEL := hid hel
  have c1 := hcur.cell 1 (hel 1 t1 rfl)
  unfold strV at c1
  clear hb ho HB0 HZ0 hel hcur hg
  go_wp2_with fail
  refine (HKD.out _ HB1.out).mono ?_
  rintro e' w2 ⟨rfl, rfl⟩
  have c0 := (HC1.out.alloc (.cells #[.int .i64 0, .int .i64 0] 2)).cell 0 (HEL.out 0 t0 rfl)
  unfold strV at c0
  have HB2 := hid (ext_alloc HB1.out (.cells #[.int .i64 0, .int .i64 0] 2))
  have HZ2 := hid (HZ1.out.alloc (.cells #[.int .i64 0, .int .i64 0] 2))
  have HC2 := hid (HC1.out.alloc (.cells #[.int .i64 0, .int .i64 0] 2))
  have HX2 : Hid (Blk (w1.alloc (.cells #[.int .i64 0, .int .i64 0] 2)) w1.heap.size #[.int .i64 0, .int .i64 0] 2) := hid (Blk.new _ _ _)
  have HGX : Hid (g < w1.heap.size ∧ w.heap.size < w1.heap.size) := hid (by have := HC1.out.lt; have := HZ1.out.lt; exact ⟨by assumption, by assumption⟩)
  clear c1
  go_wp2_with fail
  refine (HN0.out _).mono ?_
  rintro e' w3 ⟨rfl, hb⟩
  have HB3 := hid (ext_trans HB2.out hb)
  have HZ3 := hid (HZ2.out.below hb)
  have HC3 := hid (HC2.out.below hb)
  have HX3 := hid (HX2.out.below hb)
  clear hb c0 HB2 HZ2 HC2 HX2 HB1 HZ1 HC1 g1 g2 g3 g4
  have HA := hid (rnum_ok t0)
  have HRT : Hid (rparse l = if (((rnum t0).2 && (numAt rest 0).2) && (numAt rest 1).2) = false ∨ (rnum t0).1 < 0 ∨ 5 < (rnum t0).1 ∨ (k = 10 ∧ ((numAt rest 0).1 < 0 ∨ 9 < (numAt rest 0).1)) then (evZ, 4)
    else if mayT (mkE k (rnum t0).1 (numAt rest 0).1 (numAt rest 1).1) = true ∧ showT (mkE k (rnum t0).1 (numAt rest 0).1 (numAt rest 1).1) = l then (mkE k (rnum t0).1 (numAt rest 0).1 (numAt rest 1).1, 0) else (evZ, 4)) := hid (by rw [HPT.out]; unfold rparseT; rw [HKK.out])
  generalize rnum t0 = a at HA HRT ⊢
  obtain ⟨a, ao⟩ := a
  dsimp only at HA HRT ⊢
  go_wp2_with fail
  go_loopw [9, 10] (fun ok i wr => ∃ (m : Nat) (i0 : Int) (o : Bool) (x0 x1 : Int), ((m = 0 ∧ i0 = 2) ∨ (m = 1 ∧ i0 = 3) ∨ (m = 2 ∧ i0 = 4)) ∧ m ≤ rest.length ∧ ok = .bool o ∧ i = .int .i64 i0 ∧ Hid (o = ((ao && okM rest m 0) && okM rest m 1)) ∧ Hid (x0 = xM rest m 0 ∧ x1 = xM rest m 1) ∧ Hid (Below w.heap.size w wr) ∧ Hid (Blk wr w.heap.size #[.int .u8 0, .int .i64 0, .int .i64 0, .int .i64 0, .int .i64 0, .int .i64 0, .int .u8 0] 23) ∧ Hid (Blk wr g cur 9) ∧ Hid (Blk wr w1.heap.size #[.int .i64 x0, .int .i64 x1] 2)) (fun _ i _ => 4 - (intOf i).toNat)
  case atStart => exact ⟨0, 2, ao, 0, 0, Or.inl ⟨rfl, rfl⟩, Nat.zero_le _, rfl, rfl, hid (by simp [okM]), hid ⟨rfl, rfl⟩, HB3, HZ3, HC3, HX3⟩
  case round =>
    obtain ⟨m, i0, o, x0, x1, hmi, hml, rfl, rfl, HO, HXX, HB4, HZ4, HC4, HX4⟩ := hrel
    rename_i wr
    clear HB3 HZ3 HC3 HX3
    have j1 : wrap64 ((rest.length : Int) + 1 + 1) = (rest.length : Int) + 1 + 1 := by have := HRL.out; unfold wrap64; omega
    by_cases hend : m = 2 ∨ rest.length ≤ m
    · have HXE := hid (And.intro (xM_end (rest := rest) (j := 0) (by omega) hend) (xM_end (rest := rest) (j := 1) (by omega) hend))
      have k1 : (decide (i0 < (rest.length : Int) + 1 + 1) = true ∧ decide (i0 < 4) = false) ∨ decide (i0 < (rest.length : Int) + 1 + 1) = false := by
        simp only [decide_eq_true_eq, decide_eq_false_iff_not]
        omega
      clear hend hmi hml
      rcases k1 with ⟨k1, k2⟩ | k1
      all_goals (
        have HO2 : Hid (((ao && (numAt rest 0).2) && (numAt rest 1).2) = o) := hid (by rw [HO.out, HXE.out.1.2, HXE.out.2.2])
        have HX0 : Hid ((numAt rest 0).1 = x0) := hid (by rw [HXX.out.1, HXE.out.1.1])
        have HX1 : Hid ((numAt rest 1).1 = x1) := hid (by rw [HXX.out.2, HXE.out.2.1])
        have HY0 := hid (numAt_ok rest 0)
        have HY1 := hid (numAt_ok rest 1)
        rw [HX0.out] at HY0
        rw [HX1.out] at HY1
        have HRT := hid HRT.out
        rw [HO2.out, HX0.out, HX1.out] at HRT
        clear HXE HO HXX HO2 HX0 HX1 HNR HC4
        cases o
        · have HR : Hid (rparse l = (evZ, 4)) := hid (by rw [HRT.out]; exact if_pos (Or.inl rfl))
          have z0 := HZ4.out.free 0
          have z1 := HZ4.out.free 1
          have z2 := HZ4.out.free 2
          have z3 := HZ4.out.free 3
          have z4 := HZ4.out.free 4
          have z5 := HZ4.out.free 5
          have z6 := HZ4.out.free 6
          have t0 := HZ4.out.cell 0 rfl
          have t1 := HZ4.out.cell 1 rfl
          have t2 := HZ4.out.cell 2 rfl
          have t3 := HZ4.out.cell 3 rfl
          have t4 := HZ4.out.cell 4 rfl
          have t5 := HZ4.out.cell 5 rfl
          have t6 := HZ4.out.cell 6 rfl
          have HBZ := hid (low7 HB4.out (b := w.heap.size) (Nat.le_refl _) (.int .u8 0) (.int .i64 0) (.int .i64 0) (.int .i64 0) (.int .i64 0) (.int .i64 0) (.int .u8 0))
          have HRZ := hid (set7 HZ4.out (.int .u8 0) (.int .i64 0) (.int .i64 0) (.int .i64 0) (.int .i64 0) (.int .i64 0) (.int .u8 0))
          have q0 := HRZ.out.cell 0 rfl
          have q1 := HRZ.out.cell 1 rfl
          have q2 := HRZ.out.cell 2 rfl
          have q3 := HRZ.out.cell 3 rfl
          have q4 := HRZ.out.cell 4 rfl
          have q5 := HRZ.out.cell 5 rfl
          have q6 := HRZ.out.cell 6 rfl
          clear HRZ
          go_wp2_with fail
          exact bodyPost_ret (v := .tuple #[evA evZ, .int .i64 4]) (by simp [results, Tryd.results14, go_sem, q0, q1, q2, q3, q4, q5, q6, evA, evZ]) rfl (by unfold RParseP; rw [HR.out]; exact ⟨rfl, HBZ.out⟩)
        by_cases ha : a < 0
        · have k3 : decide (a < 0) = true := decide_eq_true ha
          have HR : Hid (rparse l = (evZ, 4)) := hid (by rw [HRT.out]; exact if_pos (Or.inr (Or.inl ha)))
          clear ha
          have z0 := HZ4.out.free 0
          have z1 := HZ4.out.free 1
          have z2 := HZ4.out.free 2
          have z3 := HZ4.out.free 3
          have z4 := HZ4.out.free 4
          have z5 := HZ4.out.free 5
          have z6 := HZ4.out.free 6
          have t0 := HZ4.out.cell 0 rfl
          have t1 := HZ4.out.cell 1 rfl
          have t2 := HZ4.out.cell 2 rfl
          have t3 := HZ4.out.cell 3 rfl
          have t4 := HZ4.out.cell 4 rfl
          have t5 := HZ4.out.cell 5 rfl
          have t6 := HZ4.out.cell 6 rfl
          have HBZ := hid (low7 HB4.out (b := w.heap.size) (Nat.le_refl _) (.int .u8 0) (.int .i64 0) (.int .i64 0) (.int .i64 0) (.int .i64 0) (.int .i64 0) (.int .u8 0))
          have HRZ := hid (set7 HZ4.out (.int .u8 0) (.int .i64 0) (.int .i64 0) (.int .i64 0) (.int .i64 0) (.int .i64 0) (.int .u8 0))
          have q0 := HRZ.out.cell 0 rfl
          have q1 := HRZ.out.cell 1 rfl
          have q2 := HRZ.out.cell 2 rfl
          have q3 := HRZ.out.cell 3 rfl
          have q4 := HRZ.out.cell 4 rfl
          have q5 := HRZ.out.cell 5 rfl
          have q6 := HRZ.out.cell 6 rfl
          clear HRZ
          go_wp2_with fail
          exact bodyPost_ret (v := .tuple #[evA evZ, .int .i64 4]) (by simp [results, Tryd.results14, go_sem, q0, q1, q2, q3, q4, q5, q6, evA, evZ]) rfl (by unfold RParseP; rw [HR.out]; exact ⟨rfl, HBZ.out⟩)
        have k3 : decide (a < 0) = false := decide_eq_false ha
        by_cases ha5 : 5 < a
        · have k4 : decide (5 < a) = true := decide_eq_true ha5
          have HR : Hid (rparse l = (evZ, 4)) := hid (by rw [HRT.out]; exact if_pos (Or.inr (Or.inr (Or.inl ha5))))
          clear ha ha5
          have z0 := HZ4.out.free 0
          have z1 := HZ4.out.free 1
          have z2 := HZ4.out.free 2
          have z3 := HZ4.out.free 3
          have z4 := HZ4.out.free 4
          have z5 := HZ4.out.free 5
          have z6 := HZ4.out.free 6
          have t0 := HZ4.out.cell 0 rfl
          have t1 := HZ4.out.cell 1 rfl
          have t2 := HZ4.out.cell 2 rfl
          have t3 := HZ4.out.cell 3 rfl
          have t4 := HZ4.out.cell 4 rfl
          have t5 := HZ4.out.cell 5 rfl
          have t6 := HZ4.out.cell 6 rfl
          have HBZ := hid (low7 HB4.out (b := w.heap.size) (Nat.le_refl _) (.int .u8 0) (.int .i64 0) (.int .i64 0) (.int .i64 0) (.int .i64 0) (.int .i64 0) (.int .u8 0))
          have HRZ := hid (set7 HZ4.out (.int .u8 0) (.int .i64 0) (.int .i64 0) (.int .i64 0) (.int .i64 0) (.int .i64 0) (.int .u8 0))
          have q0 := HRZ.out.cell 0 rfl
          have q1 := HRZ.out.cell 1 rfl
          have q2 := HRZ.out.cell 2 rfl
          have q3 := HRZ.out.cell 3 rfl
          have q4 := HRZ.out.cell 4 rfl
          have q5 := HRZ.out.cell 5 rfl
          have q6 := HRZ.out.cell 6 rfl
          clear HRZ
          go_wp2_with fail
          exact bodyPost_ret (v := .tuple #[evA evZ, .int .i64 4]) (by simp [results, Tryd.results14, go_sem, q0, q1, q2, q3, q4, q5, q6, evA, evZ]) rfl (by unfold RParseP; rw [HR.out]; exact ⟨rfl, HBZ.out⟩)
        have k4 : decide (5 < a) = false := decide_eq_false ha5
        have HAA := hid (And.intro ha ha5)
        clear ha ha5
        have HB5 := hid (ext_alloc HB4.out (.cells #[.int .u8 (k : Int), .int .i64 a, .int .i64 0, .int .i64 0, .int .i64 0, .int .i64 0, .int .u8 0] 23))
        have HZ5 := hid (HZ4.out.alloc (.cells #[.int .u8 (k : Int), .int .i64 a, .int .i64 0, .int .i64 0, .int .i64 0, .int .i64 0, .int .u8 0] 23))
        have HX5 := hid (HX4.out.alloc (.cells #[.int .u8 (k : Int), .int .i64 a, .int .i64 0, .int .i64 0, .int .i64 0, .int .i64 0, .int .u8 0] 23))
        have HE5 : Hid (Blk (wr.alloc (.cells #[.int .u8 (k : Int), .int .i64 a, .int .i64 0, .int .i64 0, .int .i64 0, .int .i64 0, .int .u8 0] 23)) wr.heap.size #[.int .u8 (k : Int), .int .i64 a, .int .i64 0, .int .i64 0, .int .i64 0, .int .i64 0, .int .u8 0] 23) := hid (Blk.new _ _ _)
        have HEB : Hid (w.heap.size < wr.heap.size ∧ w1.heap.size < wr.heap.size) := hid ⟨HZ4.out.lt, HX4.out.lt⟩
        clear HB4 HZ4 HX4
        go_upto_block 2 with fail
        generalize wr.alloc (.cells #[.int .u8 (k : Int), .int .i64 a, .int .i64 0, .int .i64 0, .int .i64 0, .int .i64 0, .int .u8 0] 23) = W5 at HB5 HZ5 HX5 HE5 ⊢
        generalize wr.heap.size = eb at HE5 HEB ⊢
        clear j1 k1 k3 k4
        have s0 := HX5.out.cell 0 rfl
        have s1 := HX5.out.cell 1 rfl
        have hk13 := HK13.out
        go_cut [80] (fun _ w' => Blk w' w.heap.size #[.int .u8 0, .int .i64 0, .int .i64 0, .int .i64 0, .int .i64 0, .int .i64 0, .int .u8 0] 23 ∧ Below w.heap.size w w' ∧ Blk w' eb (evC (mkE k a x0 x1)) 23 ∧ (k = 10 → 0 ≤ x0 ∧ x0 ≤ 9))
        case first =>
          have hc : k = 1 ∨ k = 2 ∨ k = 3 ∨ k = 4 ∨ k = 5 ∨ k = 6 ∨ k = 7 ∨ k = 8 ∨ k = 9 ∨ k = 10 ∨ k = 11 ∨ k = 12 ∨ k = 13 := by omega
          clear hk13 HK13 HKK HPT
          rcases hc with rfl | rfl | rfl | rfl | rfl | rfl | rfl | rfl | rfl | rfl | rfl | rfl | rfl
          · go_wp2_with fail
            obtain ⟨W6, hW6⟩ : ∃ W, W = W5.drew := ⟨_, rfl⟩
            have HB6 : Hid (Below w.heap.size w W6) := hid (by rw [hW6]; exact ext_drew HB5.out)
            have HZ6 : Hid (Blk W6 w.heap.size #[.int .u8 0, .int .i64 0, .int .i64 0, .int .i64 0, .int .i64 0, .int .i64 0, .int .u8 0] 23) := hid (by rw [hW6]; exact HZ5.out.drew)
            have HX6 : Hid (Blk W6 w1.heap.size #[.int .i64 x0, .int .i64 x1] 2) := hid (by rw [hW6]; exact HX5.out.drew)
            have HE6 : Hid (Blk W6 eb #[.int .u8 1, .int .i64 a, .int .i64 0, .int .i64 0, .int .i64 0, .int .i64 0, .int .u8 0] 23) := hid (by rw [hW6]; exact HE5.out.drew)
            have h00 : TwoSt W6 eb 2 4 (.int .i64 x0) (.int .i64 x1) 7 9 (fun _ => false) W5.drew := by rw [← hW6]; exact TwoSt.start
            clear hW6 s0 s1
            apply wp_region_valsJ [.slice (some ⟨w1.heap.size, 0, none⟩) 2 2, .pointer (some ⟨w1.heap.size, 0, none⟩), .int .i64 x0, .slice (some ⟨w1.heap.size, 0, none⟩) 2 2, .pointer (some ⟨w1.heap.size, 1, none⟩), .int .i64 x1, .pointer (some ⟨eb, 2, none⟩), undef, .pointer (some ⟨eb, 4, none⟩), undef] (TwoSt W6 eb 2 4 (.int .i64 x0) (.int .i64 x1) 7 9)
            focus (simp [putAll, dstOf, Act.put, List.getD]; rfl)
            case hm => kernel_rfl
            case hd => kernel_rfl
            case hb => kernel_rfl
            case hdep => kernel_rfl
            case hsel => kernel_rfl
            case hng => kernel_rfl
            case hgv => kernel_rfl
            case hsz => kernel_rfl
            case hext => exact fun l l' w' h H => H.ext (k := 10) (by omega) (by omega) h
            case h0 => exact h00
            case hstep =>
              refine ⟨?_, ?_, ?_, ?_, ?_, ?_, ?_, ?_, ?_, ?_, trivial⟩
              · intro l' w' hl hdp hJ
                rw [if_pos (by kernel_rfl)]
                intro K Qp hK
                have HJ := hid hJ
                clear hJ
                go_simp
                exact hK _ (HJ.out.other 0 (by omega) (by omega))
              · intro l' w' hl hdp hJ
                rw [if_pos (by kernel_rfl)]
                intro K Qp hK
                have HJ := hid hJ
                clear hJ
                go_simp
                exact hK _ (HJ.out.other 1 (by omega) (by omega))
              · intro l' w' hl hdp hJ
                rw [if_pos (by kernel_rfl)]
                intro K Qp hK
                have c0 := (hJ.blk (by have := HEB.out; omega) HX6.out).cell 0 rfl
                have HJ := hid hJ
                clear hJ
                go_simp
                exact hK _ (HJ.out.other 2 (by omega) (by omega))
              · intro l' w' hl hdp hJ
                rw [if_pos (by kernel_rfl)]
                intro K Qp hK
                have HJ := hid hJ
                clear hJ
                go_simp
                exact hK _ (HJ.out.other 3 (by omega) (by omega))
              · intro l' w' hl hdp hJ
                rw [if_pos (by kernel_rfl)]
                intro K Qp hK
                have HJ := hid hJ
                clear hJ
                go_simp
                exact hK _ (HJ.out.other 4 (by omega) (by omega))
              · intro l' w' hl hdp hJ
                rw [if_pos (by kernel_rfl)]
                intro K Qp hK
                have c0 := (hJ.blk (by have := HEB.out; omega) HX6.out).cell 1 rfl
                have HJ := hid hJ
                clear hJ
                go_simp
                exact hK _ (HJ.out.other 5 (by omega) (by omega))
              · intro l' w' hl hdp hJ
                rw [if_pos (by kernel_rfl)]
                intro K Qp hK
                have HJ := hid hJ
                clear hJ
                go_simp
                exact hK _ (HJ.out.other 6 (by omega) (by omega))
              · intro l' w' hl hdp hJ
                rw [if_pos (by kernel_rfl)]
                intro K Qp hK
                obtain ⟨rfl, hn⟩ := hJ.first (by omega) hl
                have HN := hid hn
                have c0 := HE6.out.cell 2 rfl
                have f0 := HE6.out.free 2
                clear hJ hn
                go_simp
                exact hK _ HN.out
              · intro l' w' hl hdp hJ
                rw [if_pos (by kernel_rfl)]
                intro K Qp hK
                have HJ := hid hJ
                clear hJ
                go_simp
                exact hK _ (HJ.out.other 8 (by omega) (by omega))
              · intro l' w' hl hdp hJ
                rw [if_pos (by kernel_rfl)]
                intro K Qp hK
                obtain ⟨rfl, hn⟩ := hJ.second (by omega) (hdp 7 (by kernel_rfl)) hl
                have HN := hid hn
                have c0 := HE6.out.cell 4 rfl
                have f0 := HE6.out.free 4
                have c1 := (HE6.out.set 2 (.int .i64 x0)).cell 4 rfl
                have f1 := (HE6.out.set 2 (.int .i64 x0)).free 4
                clear hJ hn
                go_simp
                exact hK _ HN.out
            case hdone =>
              intro w' hJ
              obtain rfl := hJ.done
              clear hJ h00
              go_wp2_with fail
              go_meet
              exact ⟨(HZ6.out.set_other ⟨eb, 2, none⟩ (.int .i64 x0) (by have := HEB.out; dsimp only; omega)).set_other ⟨eb, 4, none⟩ (.int .i64 x1) (by have := HEB.out; dsimp only; omega), (HB6.out.setCell (p := ⟨eb, 2, none⟩) (by have := HEB.out; dsimp only; omega) (.int .i64 x0)).setCell (p := ⟨eb, 4, none⟩) (by have := HEB.out; dsimp only; omega) (.int .i64 x1), (HE6.out.set 2 (.int .i64 x0)).set 4 (.int .i64 x1), fun h => by omega⟩
          · go_wp2_with fail
            obtain ⟨W6, hW6⟩ : ∃ W, W = W5.drew := ⟨_, rfl⟩
            have HB6 : Hid (Below w.heap.size w W6) := hid (by rw [hW6]; exact ext_drew HB5.out)
            have HZ6 : Hid (Blk W6 w.heap.size #[.int .u8 0, .int .i64 0, .int .i64 0, .int .i64 0, .int .i64 0, .int .i64 0, .int .u8 0] 23) := hid (by rw [hW6]; exact HZ5.out.drew)
            have HX6 : Hid (Blk W6 w1.heap.size #[.int .i64 x0, .int .i64 x1] 2) := hid (by rw [hW6]; exact HX5.out.drew)
            have HE6 : Hid (Blk W6 eb #[.int .u8 2, .int .i64 a, .int .i64 0, .int .i64 0, .int .i64 0, .int .i64 0, .int .u8 0] 23) := hid (by rw [hW6]; exact HE5.out.drew)
            have h00 : TwoSt W6 eb 3 4 (.int .i64 x0) (.int .i64 x1) 7 9 (fun _ => false) W5.drew := by rw [← hW6]; exact TwoSt.start
            clear hW6 s0 s1
            apply wp_region_valsJ [.slice (some ⟨w1.heap.size, 0, none⟩) 2 2, .pointer (some ⟨w1.heap.size, 0, none⟩), .int .i64 x0, .slice (some ⟨w1.heap.size, 0, none⟩) 2 2, .pointer (some ⟨w1.heap.size, 1, none⟩), .int .i64 x1, .pointer (some ⟨eb, 3, none⟩), undef, .pointer (some ⟨eb, 4, none⟩), undef] (TwoSt W6 eb 3 4 (.int .i64 x0) (.int .i64 x1) 7 9)
            focus (simp [putAll, dstOf, Act.put, List.getD]; rfl)
            case hm => kernel_rfl
            case hd => kernel_rfl
            case hb => kernel_rfl
            case hdep => kernel_rfl
            case hsel => kernel_rfl
            case hng => kernel_rfl
            case hgv => kernel_rfl
            case hsz => kernel_rfl
            case hext => exact fun l l' w' h H => H.ext (k := 10) (by omega) (by omega) h
            case h0 => exact h00
            case hstep =>
              refine ⟨?_, ?_, ?_, ?_, ?_, ?_, ?_, ?_, ?_, ?_, trivial⟩
              · intro l' w' hl hdp hJ
                rw [if_pos (by kernel_rfl)]
                intro K Qp hK
                have HJ := hid hJ
                clear hJ
                go_simp
                exact hK _ (HJ.out.other 0 (by omega) (by omega))
              · intro l' w' hl hdp hJ
                rw [if_pos (by kernel_rfl)]
                intro K Qp hK
                have HJ := hid hJ
                clear hJ
                go_simp
                exact hK _ (HJ.out.other 1 (by omega) (by omega))
              · intro l' w' hl hdp hJ
                rw [if_pos (by kernel_rfl)]
                intro K Qp hK
                have c0 := (hJ.blk (by have := HEB.out; omega) HX6.out).cell 0 rfl
                have HJ := hid hJ
                clear hJ
                go_simp
                exact hK _ (HJ.out.other 2 (by omega) (by omega))
              · intro l' w' hl hdp hJ
                rw [if_pos (by kernel_rfl)]
                intro K Qp hK
                have HJ := hid hJ
                clear hJ
                go_simp
                exact hK _ (HJ.out.other 3 (by omega) (by omega))
              · intro l' w' hl hdp hJ
                rw [if_pos (by kernel_rfl)]
                intro K Qp hK
                have HJ := hid hJ
                clear hJ
                go_simp
                exact hK _ (HJ.out.other 4 (by omega) (by omega))
              · intro l' w' hl hdp hJ
                rw [if_pos (by kernel_rfl)]
                intro K Qp hK
                have c0 := (hJ.blk (by have := HEB.out; omega) HX6.out).cell 1 rfl
                have HJ := hid hJ
                clear hJ
                go_simp
                exact hK _ (HJ.out.other 5 (by omega) (by omega))
              · intro l' w' hl hdp hJ
                rw [if_pos (by kernel_rfl)]
                intro K Qp hK
                have HJ := hid hJ
                clear hJ
                go_simp
                exact hK _ (HJ.out.other 6 (by omega) (by omega))
              · intro l' w' hl hdp hJ
                rw [if_pos (by kernel_rfl)]
                intro K Qp hK
                obtain ⟨rfl, hn⟩ := hJ.first (by omega) hl
                have HN := hid hn
                have c0 := HE6.out.cell 3 rfl
                have f0 := HE6.out.free 3
                clear hJ hn
                go_simp
                exact hK _ HN.out
              · intro l' w' hl hdp hJ
                rw [if_pos (by kernel_rfl)]
                intro K Qp hK
                have HJ := hid hJ
                clear hJ
                go_simp
                exact hK _ (HJ.out.other 8 (by omega) (by omega))
              · intro l' w' hl hdp hJ
                rw [if_pos (by kernel_rfl)]
                intro K Qp hK
                obtain ⟨rfl, hn⟩ := hJ.second (by omega) (hdp 7 (by kernel_rfl)) hl
                have HN := hid hn
                have c0 := HE6.out.cell 4 rfl
                have f0 := HE6.out.free 4
                have c1 := (HE6.out.set 3 (.int .i64 x0)).cell 4 rfl
                have f1 := (HE6.out.set 3 (.int .i64 x0)).free 4
                clear hJ hn
                go_simp
                exact hK _ HN.out
            case hdone =>
              intro w' hJ
              obtain rfl := hJ.done
              clear hJ h00
              go_wp2_with fail
              go_meet
              exact ⟨(HZ6.out.set_other ⟨eb, 3, none⟩ (.int .i64 x0) (by have := HEB.out; dsimp only; omega)).set_other ⟨eb, 4, none⟩ (.int .i64 x1) (by have := HEB.out; dsimp only; omega), (HB6.out.setCell (p := ⟨eb, 3, none⟩) (by have := HEB.out; dsimp only; omega) (.int .i64 x0)).setCell (p := ⟨eb, 4, none⟩) (by have := HEB.out; dsimp only; omega) (.int .i64 x1), (HE6.out.set 3 (.int .i64 x0)).set 4 (.int .i64 x1), fun h => by omega⟩
          · go_wp2_with fail
            obtain ⟨W6, hW6⟩ : ∃ W, W = W5.drew := ⟨_, rfl⟩
            have HB6 : Hid (Below w.heap.size w W6) := hid (by rw [hW6]; exact ext_drew HB5.out)
            have HZ6 : Hid (Blk W6 w.heap.size #[.int .u8 0, .int .i64 0, .int .i64 0, .int .i64 0, .int .i64 0, .int .i64 0, .int .u8 0] 23) := hid (by rw [hW6]; exact HZ5.out.drew)
            have HX6 : Hid (Blk W6 w1.heap.size #[.int .i64 x0, .int .i64 x1] 2) := hid (by rw [hW6]; exact HX5.out.drew)
            have HE6 : Hid (Blk W6 eb #[.int .u8 3, .int .i64 a, .int .i64 0, .int .i64 0, .int .i64 0, .int .i64 0, .int .u8 0] 23) := hid (by rw [hW6]; exact HE5.out.drew)
            have h00 : TwoSt W6 eb 3 5 (.int .i64 x0) (.int .i64 x1) 7 9 (fun _ => false) W5.drew := by rw [← hW6]; exact TwoSt.start
            clear hW6 s0 s1
            apply wp_region_valsJ [.slice (some ⟨w1.heap.size, 0, none⟩) 2 2, .pointer (some ⟨w1.heap.size, 0, none⟩), .int .i64 x0, .slice (some ⟨w1.heap.size, 0, none⟩) 2 2, .pointer (some ⟨w1.heap.size, 1, none⟩), .int .i64 x1, .pointer (some ⟨eb, 3, none⟩), undef, .pointer (some ⟨eb, 5, none⟩), undef] (TwoSt W6 eb 3 5 (.int .i64 x0) (.int .i64 x1) 7 9)
            focus (simp [putAll, dstOf, Act.put, List.getD]; rfl)
            case hm => kernel_rfl
            case hd => kernel_rfl
            case hb => kernel_rfl
            case hdep => kernel_rfl
            case hsel => kernel_rfl
            case hng => kernel_rfl
            case hgv => kernel_rfl
            case hsz => kernel_rfl
            case hext => exact fun l l' w' h H => H.ext (k := 10) (by omega) (by omega) h
            case h0 => exact h00
            case hstep =>
              refine ⟨?_, ?_, ?_, ?_, ?_, ?_, ?_, ?_, ?_, ?_, trivial⟩
              · intro l' w' hl hdp hJ
                rw [if_pos (by kernel_rfl)]
                intro K Qp hK
                have HJ := hid hJ
                clear hJ
                go_simp
                exact hK _ (HJ.out.other 0 (by omega) (by omega))
              · intro l' w' hl hdp hJ
                rw [if_pos (by kernel_rfl)]
                intro K Qp hK
                have HJ := hid hJ
                clear hJ
                go_simp
                exact hK _ (HJ.out.other 1 (by omega) (by omega))
              · intro l' w' hl hdp hJ
                rw [if_pos (by kernel_rfl)]
                intro K Qp hK
                have c0 := (hJ.blk (by have := HEB.out; omega) HX6.out).cell 0 rfl
                have HJ := hid hJ
                clear hJ
                go_simp
                exact hK _ (HJ.out.other 2 (by omega) (by omega))
              · intro l' w' hl hdp hJ
                rw [if_pos (by kernel_rfl)]
                intro K Qp hK
                have HJ := hid hJ
                clear hJ
                go_simp
                exact hK _ (HJ.out.other 3 (by omega) (by omega))
              · intro l' w' hl hdp hJ
                rw [if_pos (by kernel_rfl)]
                intro K Qp hK
                have HJ := hid hJ
                clear hJ
                go_simp
                exact hK _ (HJ.out.other 4 (by omega) (by omega))
              · intro l' w' hl hdp hJ
                rw [if_pos (by kernel_rfl)]
                intro K Qp hK
                have c0 := (hJ.blk (by have := HEB.out; omega) HX6.out).cell 1 rfl
                have HJ := hid hJ
                clear hJ
                go_simp
                exact hK _ (HJ.out.other 5 (by omega) (by omega))
              · intro l' w' hl hdp hJ
                rw [if_pos (by kernel_rfl)]
                intro K Qp hK
                have HJ := hid hJ
                clear hJ
                go_simp
                exact hK _ (HJ.out.other 6 (by omega) (by omega))
              · intro l' w' hl hdp hJ
                rw [if_pos (by kernel_rfl)]
                intro K Qp hK
                obtain ⟨rfl, hn⟩ := hJ.first (by omega) hl
                have HN := hid hn
                have c0 := HE6.out.cell 3 rfl
                have f0 := HE6.out.free 3
                clear hJ hn
                go_simp
                exact hK _ HN.out
              · intro l' w' hl hdp hJ
                rw [if_pos (by kernel_rfl)]
                intro K Qp hK
                have HJ := hid hJ
                clear hJ
                go_simp
                exact hK _ (HJ.out.other 8 (by omega) (by omega))
              · intro l' w' hl hdp hJ
                rw [if_pos (by kernel_rfl)]
                intro K Qp hK
                obtain ⟨rfl, hn⟩ := hJ.second (by omega) (hdp 7 (by kernel_rfl)) hl
                have HN := hid hn
                have c0 := HE6.out.cell 5 rfl
                have f0 := HE6.out.free 5
                have c1 := (HE6.out.set 3 (.int .i64 x0)).cell 5 rfl
                have f1 := (HE6.out.set 3 (.int .i64 x0)).free 5
                clear hJ hn
                go_simp
                exact hK _ HN.out
            case hdone =>
              intro w' hJ
              obtain rfl := hJ.done
              clear hJ h00
              go_wp2_with fail
              go_meet
              exact ⟨(HZ6.out.set_other ⟨eb, 3, none⟩ (.int .i64 x0) (by have := HEB.out; dsimp only; omega)).set_other ⟨eb, 5, none⟩ (.int .i64 x1) (by have := HEB.out; dsimp only; omega), (HB6.out.setCell (p := ⟨eb, 3, none⟩) (by have := HEB.out; dsimp only; omega) (.int .i64 x0)).setCell (p := ⟨eb, 5, none⟩) (by have := HEB.out; dsimp only; omega) (.int .i64 x1), (HE6.out.set 3 (.int .i64 x0)).set 5 (.int .i64 x1), fun h => by omega⟩
          · have ce := HE5.out.cell 3 rfl
            have fe := HE5.out.free 3
            go_wp2_with fail
            go_meet
            exact ⟨HZ5.out.set_other ⟨eb, 3, none⟩ (.int .i64 x0) (by have := HEB.out; dsimp only; omega), HB5.out.setCell (p := ⟨eb, 3, none⟩) (by have := HEB.out; dsimp only; omega) (.int .i64 x0), HE5.out.set 3 (.int .i64 x0), fun h => by omega⟩
          · have ce := HE5.out.cell 4 rfl
            have fe := HE5.out.free 4
            go_wp2_with fail
            go_meet
            exact ⟨HZ5.out.set_other ⟨eb, 4, none⟩ (.int .i64 x0) (by have := HEB.out; dsimp only; omega), HB5.out.setCell (p := ⟨eb, 4, none⟩) (by have := HEB.out; dsimp only; omega) (.int .i64 x0), HE5.out.set 4 (.int .i64 x0), fun h => by omega⟩
          · have ce := HE5.out.cell 3 rfl
            have fe := HE5.out.free 3
            go_wp2_with fail
            go_meet
            exact ⟨HZ5.out.set_other ⟨eb, 3, none⟩ (.int .i64 x0) (by have := HEB.out; dsimp only; omega), HB5.out.setCell (p := ⟨eb, 3, none⟩) (by have := HEB.out; dsimp only; omega) (.int .i64 x0), HE5.out.set 3 (.int .i64 x0), fun h => by omega⟩
          · have ce := HE5.out.cell 4 rfl
            have fe := HE5.out.free 4
            go_wp2_with fail
            go_meet
            exact ⟨HZ5.out.set_other ⟨eb, 4, none⟩ (.int .i64 x0) (by have := HEB.out; dsimp only; omega), HB5.out.setCell (p := ⟨eb, 4, none⟩) (by have := HEB.out; dsimp only; omega) (.int .i64 x0), HE5.out.set 4 (.int .i64 x0), fun h => by omega⟩
          · go_wp2_with fail
            obtain ⟨W6, hW6⟩ : ∃ W, W = W5.drew := ⟨_, rfl⟩
            have HB6 : Hid (Below w.heap.size w W6) := hid (by rw [hW6]; exact ext_drew HB5.out)
            have HZ6 : Hid (Blk W6 w.heap.size #[.int .u8 0, .int .i64 0, .int .i64 0, .int .i64 0, .int .i64 0, .int .i64 0, .int .u8 0] 23) := hid (by rw [hW6]; exact HZ5.out.drew)
            have HX6 : Hid (Blk W6 w1.heap.size #[.int .i64 x0, .int .i64 x1] 2) := hid (by rw [hW6]; exact HX5.out.drew)
            have HE6 : Hid (Blk W6 eb #[.int .u8 8, .int .i64 a, .int .i64 0, .int .i64 0, .int .i64 0, .int .i64 0, .int .u8 0] 23) := hid (by rw [hW6]; exact HE5.out.drew)
            have h00 : TwoSt W6 eb 3 5 (.int .i64 x0) (.int .i64 x1) 7 9 (fun _ => false) W5.drew := by rw [← hW6]; exact TwoSt.start
            clear hW6 s0 s1
            apply wp_region_valsJ [.slice (some ⟨w1.heap.size, 0, none⟩) 2 2, .pointer (some ⟨w1.heap.size, 0, none⟩), .int .i64 x0, .slice (some ⟨w1.heap.size, 0, none⟩) 2 2, .pointer (some ⟨w1.heap.size, 1, none⟩), .int .i64 x1, .pointer (some ⟨eb, 3, none⟩), undef, .pointer (some ⟨eb, 5, none⟩), undef] (TwoSt W6 eb 3 5 (.int .i64 x0) (.int .i64 x1) 7 9)
            focus (simp [putAll, dstOf, Act.put, List.getD]; rfl)
            case hm => kernel_rfl
            case hd => kernel_rfl
            case hb => kernel_rfl
            case hdep => kernel_rfl
            case hsel => kernel_rfl
            case hng => kernel_rfl
            case hgv => kernel_rfl
            case hsz => kernel_rfl
            case hext => exact fun l l' w' h H => H.ext (k := 10) (by omega) (by omega) h
            case h0 => exact h00
            case hstep =>
              refine ⟨?_, ?_, ?_, ?_, ?_, ?_, ?_, ?_, ?_, ?_, trivial⟩
              · intro l' w' hl hdp hJ
                rw [if_pos (by kernel_rfl)]
                intro K Qp hK
                have HJ := hid hJ
                clear hJ
                go_simp
                exact hK _ (HJ.out.other 0 (by omega) (by omega))
              · intro l' w' hl hdp hJ
                rw [if_pos (by kernel_rfl)]
                intro K Qp hK
                have HJ := hid hJ
                clear hJ
                go_simp
                exact hK _ (HJ.out.other 1 (by omega) (by omega))
              · intro l' w' hl hdp hJ
                rw [if_pos (by kernel_rfl)]
                intro K Qp hK
                have c0 := (hJ.blk (by have := HEB.out; omega) HX6.out).cell 0 rfl
                have HJ := hid hJ
                clear hJ
                go_simp
                exact hK _ (HJ.out.other 2 (by omega) (by omega))
              · intro l' w' hl hdp hJ
                rw [if_pos (by kernel_rfl)]
                intro K Qp hK
                have HJ := hid hJ
                clear hJ
                go_simp
                exact hK _ (HJ.out.other 3 (by omega) (by omega))
              · intro l' w' hl hdp hJ
                rw [if_pos (by kernel_rfl)]
                intro K Qp hK
                have HJ := hid hJ
                clear hJ
                go_simp
                exact hK _ (HJ.out.other 4 (by omega) (by omega))
              · intro l' w' hl hdp hJ
                rw [if_pos (by kernel_rfl)]
                intro K Qp hK
                have c0 := (hJ.blk (by have := HEB.out; omega) HX6.out).cell 1 rfl
                have HJ := hid hJ
                clear hJ
                go_simp
                exact hK _ (HJ.out.other 5 (by omega) (by omega))
              · intro l' w' hl hdp hJ
                rw [if_pos (by kernel_rfl)]
                intro K Qp hK
                have HJ := hid hJ
                clear hJ
                go_simp
                exact hK _ (HJ.out.other 6 (by omega) (by omega))
              · intro l' w' hl hdp hJ
                rw [if_pos (by kernel_rfl)]
                intro K Qp hK
                obtain ⟨rfl, hn⟩ := hJ.first (by omega) hl
                have HN := hid hn
                have c0 := HE6.out.cell 3 rfl
                have f0 := HE6.out.free 3
                clear hJ hn
                go_simp
                exact hK _ HN.out
              · intro l' w' hl hdp hJ
                rw [if_pos (by kernel_rfl)]
                intro K Qp hK
                have HJ := hid hJ
                clear hJ
                go_simp
                exact hK _ (HJ.out.other 8 (by omega) (by omega))
              · intro l' w' hl hdp hJ
                rw [if_pos (by kernel_rfl)]
                intro K Qp hK
                obtain ⟨rfl, hn⟩ := hJ.second (by omega) (hdp 7 (by kernel_rfl)) hl
                have HN := hid hn
                have c0 := HE6.out.cell 5 rfl
                have f0 := HE6.out.free 5
                have c1 := (HE6.out.set 3 (.int .i64 x0)).cell 5 rfl
                have f1 := (HE6.out.set 3 (.int .i64 x0)).free 5
                clear hJ hn
                go_simp
                exact hK _ HN.out
            case hdone =>
              intro w' hJ
              obtain rfl := hJ.done
              clear hJ h00
              go_wp2_with fail
              go_meet
              exact ⟨(HZ6.out.set_other ⟨eb, 3, none⟩ (.int .i64 x0) (by have := HEB.out; dsimp only; omega)).set_other ⟨eb, 5, none⟩ (.int .i64 x1) (by have := HEB.out; dsimp only; omega), (HB6.out.setCell (p := ⟨eb, 3, none⟩) (by have := HEB.out; dsimp only; omega) (.int .i64 x0)).setCell (p := ⟨eb, 5, none⟩) (by have := HEB.out; dsimp only; omega) (.int .i64 x1), (HE6.out.set 3 (.int .i64 x0)).set 5 (.int .i64 x1), fun h => by omega⟩
          · have ce := HE5.out.cell 3 rfl
            have fe := HE5.out.free 3
            go_wp2_with fail
            go_meet
            exact ⟨HZ5.out.set_other ⟨eb, 3, none⟩ (.int .i64 x0) (by have := HEB.out; dsimp only; omega), HB5.out.setCell (p := ⟨eb, 3, none⟩) (by have := HEB.out; dsimp only; omega) (.int .i64 x0), HE5.out.set 3 (.int .i64 x0), fun h => by omega⟩
          · by_cases h0 : x0 < 0
            · have k5 : decide (x0 < 0) = true := decide_eq_true h0
              have HR : Hid (rparse l = (evZ, 4)) := hid (by rw [HRT.out]; exact if_pos (Or.inr (Or.inr (Or.inr ⟨rfl, Or.inl h0⟩))))
              clear h0
              have z0 := HZ5.out.free 0
              have z1 := HZ5.out.free 1
              have z2 := HZ5.out.free 2
              have z3 := HZ5.out.free 3
              have z4 := HZ5.out.free 4
              have z5 := HZ5.out.free 5
              have z6 := HZ5.out.free 6
              have t0 := HZ5.out.cell 0 rfl
              have t1 := HZ5.out.cell 1 rfl
              have t2 := HZ5.out.cell 2 rfl
              have t3 := HZ5.out.cell 3 rfl
              have t4 := HZ5.out.cell 4 rfl
              have t5 := HZ5.out.cell 5 rfl
              have t6 := HZ5.out.cell 6 rfl
              have HBZ := hid (low7 HB5.out (b := w.heap.size) (Nat.le_refl _) (.int .u8 0) (.int .i64 0) (.int .i64 0) (.int .i64 0) (.int .i64 0) (.int .i64 0) (.int .u8 0))
              have HRZ := hid (set7 HZ5.out (.int .u8 0) (.int .i64 0) (.int .i64 0) (.int .i64 0) (.int .i64 0) (.int .i64 0) (.int .u8 0))
              have q0 := HRZ.out.cell 0 rfl
              have q1 := HRZ.out.cell 1 rfl
              have q2 := HRZ.out.cell 2 rfl
              have q3 := HRZ.out.cell 3 rfl
              have q4 := HRZ.out.cell 4 rfl
              have q5 := HRZ.out.cell 5 rfl
              have q6 := HRZ.out.cell 6 rfl
              clear HRZ
              go_wp2_with fail
              exact bodyPost_ret (v := .tuple #[evA evZ, .int .i64 4]) (by simp [results, Tryd.results14, go_sem, q0, q1, q2, q3, q4, q5, q6, evA, evZ]) rfl (by unfold RParseP; rw [HR.out]; exact ⟨rfl, HBZ.out⟩)
            have k5 : decide (x0 < 0) = false := decide_eq_false h0
            by_cases h9 : 9 < x0
            · have k6 : decide (9 < x0) = true := decide_eq_true h9
              have HR : Hid (rparse l = (evZ, 4)) := hid (by rw [HRT.out]; exact if_pos (Or.inr (Or.inr (Or.inr ⟨rfl, Or.inr h9⟩))))
              clear h0 h9
              have z0 := HZ5.out.free 0
              have z1 := HZ5.out.free 1
              have z2 := HZ5.out.free 2
              have z3 := HZ5.out.free 3
              have z4 := HZ5.out.free 4
              have z5 := HZ5.out.free 5
              have z6 := HZ5.out.free 6
              have t0 := HZ5.out.cell 0 rfl
              have t1 := HZ5.out.cell 1 rfl
              have t2 := HZ5.out.cell 2 rfl
              have t3 := HZ5.out.cell 3 rfl
              have t4 := HZ5.out.cell 4 rfl
              have t5 := HZ5.out.cell 5 rfl
              have t6 := HZ5.out.cell 6 rfl
              have HBZ := hid (low7 HB5.out (b := w.heap.size) (Nat.le_refl _) (.int .u8 0) (.int .i64 0) (.int .i64 0) (.int .i64 0) (.int .i64 0) (.int .i64 0) (.int .u8 0))
              have HRZ := hid (set7 HZ5.out (.int .u8 0) (.int .i64 0) (.int .i64 0) (.int .i64 0) (.int .i64 0) (.int .i64 0) (.int .u8 0))
              have q0 := HRZ.out.cell 0 rfl
              have q1 := HRZ.out.cell 1 rfl
              have q2 := HRZ.out.cell 2 rfl
              have q3 := HRZ.out.cell 3 rfl
              have q4 := HRZ.out.cell 4 rfl
              have q5 := HRZ.out.cell 5 rfl
              have q6 := HRZ.out.cell 6 rfl
              clear HRZ
              go_wp2_with fail
              exact bodyPost_ret (v := .tuple #[evA evZ, .int .i64 4]) (by simp [results, Tryd.results14, go_sem, q0, q1, q2, q3, q4, q5, q6, evA, evZ]) rfl (by unfold RParseP; rw [HR.out]; exact ⟨rfl, HBZ.out⟩)
            have k6 : decide (9 < x0) = false := decide_eq_false h9
            have HTEN : Hid (0 ≤ x0 ∧ x0 ≤ 9) := hid (by omega)
            have k7 : IntKind.u8.wrap x0 = x0 := by simp only [IntKind.wrap, IntKind.bits, IntKind.signed]; simp; omega
            clear h0 h9
            go_wp2_with fail
            obtain ⟨W6, hW6⟩ : ∃ W, W = W5.drew := ⟨_, rfl⟩
            have HB6 : Hid (Below w.heap.size w W6) := hid (by rw [hW6]; exact ext_drew HB5.out)
            have HZ6 : Hid (Blk W6 w.heap.size #[.int .u8 0, .int .i64 0, .int .i64 0, .int .i64 0, .int .i64 0, .int .i64 0, .int .u8 0] 23) := hid (by rw [hW6]; exact HZ5.out.drew)
            have HX6 : Hid (Blk W6 w1.heap.size #[.int .i64 x0, .int .i64 x1] 2) := hid (by rw [hW6]; exact HX5.out.drew)
            have HE6 : Hid (Blk W6 eb #[.int .u8 10, .int .i64 a, .int .i64 0, .int .i64 0, .int .i64 0, .int .i64 0, .int .u8 0] 23) := hid (by rw [hW6]; exact HE5.out.drew)
            have h00 : TwoSt W6 eb 6 3 (.int .u8 x0) (.int .i64 x1) 8 10 (fun _ => false) W5.drew := by rw [← hW6]; exact TwoSt.start
            clear hW6 s0 s1
            apply wp_region_valsJ [.slice (some ⟨w1.heap.size, 0, none⟩) 2 2, .pointer (some ⟨w1.heap.size, 0, none⟩), .int .i64 x0, .int .u8 x0, .slice (some ⟨w1.heap.size, 0, none⟩) 2 2, .pointer (some ⟨w1.heap.size, 1, none⟩), .int .i64 x1, .pointer (some ⟨eb, 6, none⟩), undef, .pointer (some ⟨eb, 3, none⟩), undef] (TwoSt W6 eb 6 3 (.int .u8 x0) (.int .i64 x1) 8 10)
            focus (simp [putAll, dstOf, Act.put, List.getD]; rfl)
            case hm => kernel_rfl
            case hd => kernel_rfl
            case hb => kernel_rfl
            case hdep => kernel_rfl
            case hsel => kernel_rfl
            case hng => kernel_rfl
            case hgv => kernel_rfl
            case hsz => kernel_rfl
            case hext => exact fun l l' w' h H => H.ext (k := 11) (by omega) (by omega) h
            case h0 => exact h00
            case hstep =>
              refine ⟨?_, ?_, ?_, ?_, ?_, ?_, ?_, ?_, ?_, ?_, ?_, trivial⟩
              · intro l' w' hl hdp hJ
                rw [if_pos (by kernel_rfl)]
                intro K Qp hK
                have HJ := hid hJ
                clear hJ
                go_simp
                exact hK _ (HJ.out.other 0 (by omega) (by omega))
              · intro l' w' hl hdp hJ
                rw [if_pos (by kernel_rfl)]
                intro K Qp hK
                have HJ := hid hJ
                clear hJ
                go_simp
                exact hK _ (HJ.out.other 1 (by omega) (by omega))
              · intro l' w' hl hdp hJ
                rw [if_pos (by kernel_rfl)]
                intro K Qp hK
                have c0 := (hJ.blk (by have := HEB.out; omega) HX6.out).cell 0 rfl
                have HJ := hid hJ
                clear hJ
                go_simp
                exact hK _ (HJ.out.other 2 (by omega) (by omega))
              · intro l' w' hl hdp hJ
                rw [if_pos (by kernel_rfl)]
                intro K Qp hK
                have HJ := hid hJ
                clear hJ
                go_simp
                exact hK _ (HJ.out.other 3 (by omega) (by omega))
              · intro l' w' hl hdp hJ
                rw [if_pos (by kernel_rfl)]
                intro K Qp hK
                have HJ := hid hJ
                clear hJ
                go_simp
                exact hK _ (HJ.out.other 4 (by omega) (by omega))
              · intro l' w' hl hdp hJ
                rw [if_pos (by kernel_rfl)]
                intro K Qp hK
                have HJ := hid hJ
                clear hJ
                go_simp
                exact hK _ (HJ.out.other 5 (by omega) (by omega))
              · intro l' w' hl hdp hJ
                rw [if_pos (by kernel_rfl)]
                intro K Qp hK
                have c0 := (hJ.blk (by have := HEB.out; omega) HX6.out).cell 1 rfl
                have HJ := hid hJ
                clear hJ
                go_simp
                exact hK _ (HJ.out.other 6 (by omega) (by omega))
              · intro l' w' hl hdp hJ
                rw [if_pos (by kernel_rfl)]
                intro K Qp hK
                have HJ := hid hJ
                clear hJ
                go_simp
                exact hK _ (HJ.out.other 7 (by omega) (by omega))
              · intro l' w' hl hdp hJ
                rw [if_pos (by kernel_rfl)]
                intro K Qp hK
                obtain ⟨rfl, hn⟩ := hJ.first (by omega) hl
                have HN := hid hn
                have c0 := HE6.out.cell 6 rfl
                have f0 := HE6.out.free 6
                clear hJ hn
                go_simp
                exact hK _ HN.out
              · intro l' w' hl hdp hJ
                rw [if_pos (by kernel_rfl)]
                intro K Qp hK
                have HJ := hid hJ
                clear hJ
                go_simp
                exact hK _ (HJ.out.other 9 (by omega) (by omega))
              · intro l' w' hl hdp hJ
                rw [if_pos (by kernel_rfl)]
                intro K Qp hK
                obtain ⟨rfl, hn⟩ := hJ.second (by omega) (hdp 8 (by kernel_rfl)) hl
                have HN := hid hn
                have c0 := HE6.out.cell 3 rfl
                have f0 := HE6.out.free 3
                have c1 := (HE6.out.set 6 (.int .u8 x0)).cell 3 rfl
                have f1 := (HE6.out.set 6 (.int .u8 x0)).free 3
                clear hJ hn
                go_simp
                exact hK _ HN.out
            case hdone =>
              intro w' hJ
              obtain rfl := hJ.done
              clear hJ h00
              go_wp2_with fail
              go_meet
              exact ⟨(HZ6.out.set_other ⟨eb, 6, none⟩ (.int .u8 x0) (by have := HEB.out; dsimp only; omega)).set_other ⟨eb, 3, none⟩ (.int .i64 x1) (by have := HEB.out; dsimp only; omega), (HB6.out.setCell (p := ⟨eb, 6, none⟩) (by have := HEB.out; dsimp only; omega) (.int .u8 x0)).setCell (p := ⟨eb, 3, none⟩) (by have := HEB.out; dsimp only; omega) (.int .i64 x1), (HE6.out.set 6 (.int .u8 x0)).set 3 (.int .i64 x1), fun h => by first | exact HTEN.out | omega⟩
          · have ce := HE5.out.cell 3 rfl
            have fe := HE5.out.free 3
            go_wp2_with fail
            go_meet
            exact ⟨HZ5.out.set_other ⟨eb, 3, none⟩ (.int .i64 x0) (by have := HEB.out; dsimp only; omega), HB5.out.setCell (p := ⟨eb, 3, none⟩) (by have := HEB.out; dsimp only; omega) (.int .i64 x0), HE5.out.set 3 (.int .i64 x0), fun h => by omega⟩
          · go_wp2_with fail
            go_meet
            exact ⟨HZ5.out, HB5.out, HE5.out, fun h => by omega⟩
          · go_wp2_with fail
            go_meet
            exact ⟨HZ5.out, HB5.out, HE5.out, fun h => by omega⟩
        case rest =>
          obtain ⟨hz, hb, he, h10⟩ := hcut
          have HB6 := hid hb
          have HZ6 := hid hz
          have HE6 := hid he
          have HOK := hid (mkE_ok (k := k) (by omega) HA.out HY0.out HY1.out h10)
          have HRT2 : Hid (rparse l = if mayT (mkE k a x0 x1) = true ∧ showT (mkE k a x0 x1) = l then (mkE k a x0 x1, 0) else (evZ, 4)) := hid (by
            rw [HRT.out]
            refine if_neg ?_
            have h1 := HAA.out
            rintro (h | h | h | ⟨h2, h3⟩)
            · cases h
            · exact h1.1 h
            · exact h1.2 h
            · have := h10 h2; omega)
          clear hz hb he h10 HRT s0 s1 HX5 HZ5 HB5 HE5 hk13
          generalize mkE k a x0 x1 = E at HE6 HOK HRT2
          have HSE := hid (fun W hW => HSH.out E HOK.out W hW)
          unfold RShowP at HSE
          have HEE := HE6
          obtain ⟨ekind, eth, etx, eat, ev, ex, ewhy⟩ := E
          dsimp only [evC, evA] at HE6 HSE
          have y0 := HE6.out.cell 0 rfl
          have y1 := HE6.out.cell 1 rfl
          have y2 := HE6.out.cell 2 rfl
          have y3 := HE6.out.cell 3 rfl
          have y4 := HE6.out.cell 4 rfl
          have y5 := HE6.out.cell 5 rfl
          have y6 := HE6.out.cell 6 rfl
          cases hm : mayT ⟨ekind, eth, etx, eat, ev, ex, ewhy⟩ with
          | false =>
            have HR : Hid (rparse l = (evZ, 4)) := hid (by rw [HRT2.out]; exact if_neg (fun h => by rw [hm] at h; cases h.1))
            rw [show showR ⟨ekind, eth, etx, eat, ev, ex, ewhy⟩ = ([], 4) by unfold showR; rw [hm]; rfl] at HSE
            unfold strV at HSE
            clear hm
            go_wp2_with fail
            refine (HSE.out _ HB6.out).mono ?_
            rintro e' w7 ⟨rfl, hb⟩
            have HB7 := hid (ext_trans HB6.out hb)
            have HZ7 := hid (HZ6.out.below hb)
            clear hb y0 y1 y2 y3 y4 y5 y6
            have z0 := HZ7.out.free 0
            have z1 := HZ7.out.free 1
            have z2 := HZ7.out.free 2
            have z3 := HZ7.out.free 3
            have z4 := HZ7.out.free 4
            have z5 := HZ7.out.free 5
            have z6 := HZ7.out.free 6
            have t0 := HZ7.out.cell 0 rfl
            have t1 := HZ7.out.cell 1 rfl
            have t2 := HZ7.out.cell 2 rfl
            have t3 := HZ7.out.cell 3 rfl
            have t4 := HZ7.out.cell 4 rfl
            have t5 := HZ7.out.cell 5 rfl
            have t6 := HZ7.out.cell 6 rfl
            have HBZ := hid (low7 HB7.out (b := w.heap.size) (Nat.le_refl _) (.int .u8 0) (.int .i64 0) (.int .i64 0) (.int .i64 0) (.int .i64 0) (.int .i64 0) (.int .u8 0))
            have HRZ := hid (set7 HZ7.out (.int .u8 0) (.int .i64 0) (.int .i64 0) (.int .i64 0) (.int .i64 0) (.int .i64 0) (.int .u8 0))
            have q0 := HRZ.out.cell 0 rfl
            have q1 := HRZ.out.cell 1 rfl
            have q2 := HRZ.out.cell 2 rfl
            have q3 := HRZ.out.cell 3 rfl
            have q4 := HRZ.out.cell 4 rfl
            have q5 := HRZ.out.cell 5 rfl
            have q6 := HRZ.out.cell 6 rfl
            clear HRZ
            go_wp2_with fail
            exact bodyPost_ret (v := .tuple #[evA evZ, .int .i64 4]) (by simp [results, Tryd.results14, go_sem, q0, q1, q2, q3, q4, q5, q6, evA, evZ]) rfl (by unfold RParseP; rw [HR.out]; exact ⟨rfl, HBZ.out⟩)
          | true =>
            rw [show showR ⟨ekind, eth, etx, eat, ev, ex, ewhy⟩ = (showT ⟨ekind, eth, etx, eat, ev, ex, ewhy⟩, 0) by unfold showR; rw [hm]; rfl] at HSE
            rw [hm] at HRT2
            generalize showT ⟨ekind, eth, etx, eat, ev, ex, ewhy⟩ = sh at HSE HRT2
            unfold strV at HSE
            clear hm
            by_cases hs : sh = l
            · have HR : Hid (rparse l = (⟨ekind, eth, etx, eat, ev, ex, ewhy⟩, 0)) := hid (by rw [HRT2.out]; exact if_pos ⟨rfl, hs⟩)
              have e1 : (sh == l) = true := by rw [hs]; simp
              clear hs HRT2
              go_wp2_with fail
              refine (HSE.out _ HB6.out).mono ?_
              rintro e' w7 ⟨rfl, hb⟩
              have HB7 := hid (ext_trans HB6.out hb)
              have HZ7 := hid (HZ6.out.below hb)
              have HE7 := hid (HE6.out.below hb)
              clear hb y0 y1 y2 y3 y4 y5 y6
              have y0 := HE7.out.cell 0 rfl
              have y1 := HE7.out.cell 1 rfl
              have y2 := HE7.out.cell 2 rfl
              have y3 := HE7.out.cell 3 rfl
              have y4 := HE7.out.cell 4 rfl
              have y5 := HE7.out.cell 5 rfl
              have y6 := HE7.out.cell 6 rfl
              have z0 := HZ7.out.free 0
              have z1 := HZ7.out.free 1
              have z2 := HZ7.out.free 2
              have z3 := HZ7.out.free 3
              have z4 := HZ7.out.free 4
              have z5 := HZ7.out.free 5
              have z6 := HZ7.out.free 6
              have t0 := HZ7.out.cell 0 rfl
              have t1 := HZ7.out.cell 1 rfl
              have t2 := HZ7.out.cell 2 rfl
              have t3 := HZ7.out.cell 3 rfl
              have t4 := HZ7.out.cell 4 rfl
              have t5 := HZ7.out.cell 5 rfl
              have t6 := HZ7.out.cell 6 rfl
              have HBZ := hid (low7 HB7.out (b := w.heap.size) (Nat.le_refl _) (.int .u8 ekind) (.int .i64 eth) (.int .i64 etx) (.int .i64 eat) (.int .i64 ev) (.int .i64 ex) (.int .u8 ewhy))
              have HRZ := hid (set7 HZ7.out (.int .u8 ekind) (.int .i64 eth) (.int .i64 etx) (.int .i64 eat) (.int .i64 ev) (.int .i64 ex) (.int .u8 ewhy))
              have q0 := HRZ.out.cell 0 rfl
              have q1 := HRZ.out.cell 1 rfl
              have q2 := HRZ.out.cell 2 rfl
              have q3 := HRZ.out.cell 3 rfl
              have q4 := HRZ.out.cell 4 rfl
              have q5 := HRZ.out.cell 5 rfl
              have q6 := HRZ.out.cell 6 rfl
              clear HRZ
              go_wp2_with fail
              exact bodyPost_ret (v := .tuple #[.agg #[.int .u8 ekind, .int .i64 eth, .int .i64 etx, .int .i64 eat, .int .i64 ev, .int .i64 ex, .int .u8 ewhy], .int .i64 0]) (by simp [results, Tryd.results14, go_sem, q0, q1, q2, q3, q4, q5, q6]) rfl (by unfold RParseP; rw [HR.out]; exact ⟨rfl, HBZ.out⟩)
            · have HR : Hid (rparse l = (evZ, 4)) := hid (by rw [HRT2.out]; exact if_neg (fun h => hs h.2))
              have e1 : (sh == l) = false := by simpa using hs
              clear hs HRT2
              go_wp2_with fail
              refine (HSE.out _ HB6.out).mono ?_
              rintro e' w7 ⟨rfl, hb⟩
              have HB7 := hid (ext_trans HB6.out hb)
              have HZ7 := hid (HZ6.out.below hb)
              clear hb y0 y1 y2 y3 y4 y5 y6
              have z0 := HZ7.out.free 0
              have z1 := HZ7.out.free 1
              have z2 := HZ7.out.free 2
              have z3 := HZ7.out.free 3
              have z4 := HZ7.out.free 4
              have z5 := HZ7.out.free 5
              have z6 := HZ7.out.free 6
              have t0 := HZ7.out.cell 0 rfl
              have t1 := HZ7.out.cell 1 rfl
              have t2 := HZ7.out.cell 2 rfl
              have t3 := HZ7.out.cell 3 rfl
              have t4 := HZ7.out.cell 4 rfl
              have t5 := HZ7.out.cell 5 rfl
              have t6 := HZ7.out.cell 6 rfl
              have HBZ := hid (low7 HB7.out (b := w.heap.size) (Nat.le_refl _) (.int .u8 0) (.int .i64 0) (.int .i64 0) (.int .i64 0) (.int .i64 0) (.int .i64 0) (.int .u8 0))
              have HRZ := hid (set7 HZ7.out (.int .u8 0) (.int .i64 0) (.int .i64 0) (.int .i64 0) (.int .i64 0) (.int .i64 0) (.int .u8 0))
              have q0 := HRZ.out.cell 0 rfl
              have q1 := HRZ.out.cell 1 rfl
              have q2 := HRZ.out.cell 2 rfl
              have q3 := HRZ.out.cell 3 rfl
              have q4 := HRZ.out.cell 4 rfl
              have q5 := HRZ.out.cell 5 rfl
              have q6 := HRZ.out.cell 6 rfl
              clear HRZ
              go_wp2_with fail
              exact bodyPost_ret (v := .tuple #[evA evZ, .int .i64 4]) (by simp [results, Tryd.results14, go_sem, q0, q1, q2, q3, q4, q5, q6, evA, evZ]) rfl (by unfold RParseP; rw [HR.out]; exact ⟨rfl, HBZ.out⟩))
    · have HEND := hid hend
      have hlt : m < rest.length := by omega
      obtain ⟨t, ht⟩ : ∃ t, rest[m]? = some t := ⟨_, List.getElem?_eq_getElem hlt⟩
      have HNT := hid (HNR.out m t ht)
      have hna : numAt rest m = rnum t := by unfold numAt; rw [ht]
      have HNA := hid hna
      have k1 : decide (i0 < (rest.length : Int) + 1 + 1) = true := decide_eq_true (by omega)
      have k2 : decide (i0 < 4) = true := decide_eq_true (by omega)
      have k3 : i0 < (rest.length : Int) + 1 + 1 := by omega
      have HLT := hid hlt
      have HML := hid hml
      generalize rnum t = nt at HNT HNA
      obtain ⟨nv, no⟩ := nt
      dsimp only at HNT
      clear hend hlt hna hml
      rcases hmi with ⟨rfl, rfl⟩ | ⟨rfl, rfl⟩ | ⟨rfl, rfl⟩
      · have c2 := HC4.out.cell 2 (HEL.out 2 t (by simpa using ht))
        unfold strV at c2
        clear ht
        go_wp2_with fail
        refine (HNT.out _).mono ?_
        rintro e' w5 ⟨rfl, hb⟩
        have HX5 := hid (HX4.out.below hb)
        have HB5 := hid ((ext_trans HB4.out hb).setCell (p := ⟨w1.heap.size, 0, none⟩) (by have := HGX.out; dsimp only; omega) (.int .i64 nv))
        have HZ5 := hid ((HZ4.out.below hb).set_other ⟨w1.heap.size, 0, none⟩ (.int .i64 nv) (by have := HGX.out; dsimp only; omega))
        have HC5 := hid ((HC4.out.below hb).set_other ⟨w1.heap.size, 0, none⟩ (.int .i64 nv) (by have := HGX.out; dsimp only; omega))
        have HX6 := hid (HX5.out.set 0 (.int .i64 nv))
        simp only [List.setIfInBounds_toArray, List.set_cons_succ, List.set_cons_zero] at HX6
        have cx := HX5.out.cell 0 rfl
        have fx := HX5.out.free 0
        clear hb c2
        cases o
        all_goals (
          go_wp2_with fail
          go_roundw
          case rel => exact ⟨0 + 1, 2 + 1, _, nv, x1, Or.inr (Or.inl ⟨rfl, rfl⟩), by have := HLT.out; omega, rfl, rfl, hid (by have := okstep 0 (by omega) HO.out HNA.out; simpa using this), hid (xstep0 HXX.out HNA.out), HB5, HZ5, HC5, HX6⟩
          case measure =>
            simp [intOf]
            try omega)
      · have c2 := HC4.out.cell 3 (HEL.out 3 t (by simpa using ht))
        unfold strV at c2
        clear ht
        go_wp2_with fail
        refine (HNT.out _).mono ?_
        rintro e' w5 ⟨rfl, hb⟩
        have HX5 := hid (HX4.out.below hb)
        have HB5 := hid ((ext_trans HB4.out hb).setCell (p := ⟨w1.heap.size, 1, none⟩) (by have := HGX.out; dsimp only; omega) (.int .i64 nv))
        have HZ5 := hid ((HZ4.out.below hb).set_other ⟨w1.heap.size, 1, none⟩ (.int .i64 nv) (by have := HGX.out; dsimp only; omega))
        have HC5 := hid ((HC4.out.below hb).set_other ⟨w1.heap.size, 1, none⟩ (.int .i64 nv) (by have := HGX.out; dsimp only; omega))
        have HX6 := hid (HX5.out.set 1 (.int .i64 nv))
        simp only [List.setIfInBounds_toArray, List.set_cons_succ, List.set_cons_zero] at HX6
        have cx := HX5.out.cell 1 rfl
        have fx := HX5.out.free 1
        clear hb c2
        cases o
        all_goals (
          go_wp2_with fail
          go_roundw
          case rel => exact ⟨1 + 1, 3 + 1, _, x0, nv, Or.inr (Or.inr ⟨rfl, rfl⟩), by have := HLT.out; omega, rfl, rfl, hid (by have := okstep 1 (by omega) HO.out HNA.out; simpa using this), hid (xstep1 HXX.out HNA.out), HB5, HZ5, HC5, HX6⟩
          case measure =>
            simp [intOf]
            try omega)
      · exact absurd HEND.out (by simp)
end Go.Proofs.YtlbpollckiidlaaDoor
