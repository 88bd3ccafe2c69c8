/-
  Walks: code.May.
-/
import Derived.Test.YtaklfjjkeebheaaCoCt
import Derived.Test.YtaklfjjkeebheaaCoSh
namespace Go.Proofs.Ytaklfjjkeebheaa
set_option linter.unusedVariables false
set_option linter.unusedSimpArgs false
set_option linter.unusedVariables false
open Go Go.RowKit
attribute [local go_sem] Oper.semAt_some
def mayBad (l : List St) (n : Int) : Bool := n < 0 || 6 ≤ n || decide (6 < depthT 0 l + 1) || decide (2000 < costT 0 l)
def mayT (l : List St) (n : Int) : Bool :=
  !mayBad l n && (flatT l).all (fun s => shapedS s n) && (decide (sizeT l ≤ 40) && decide (nodesL (flatT l) ≤ 300))
/-- May's two boxes. -/
structure MyI (w : World) (n : Int) (q : Bool) (W : World) : Prop where
  b3 : Blk W w.heap.size #[.int .i64 n] 3
  b4 : Blk W (w.heap.size + 1) #[.bool q] 4
  low : Below w.heap.size w W
theorem MyI.noCells {w W W' : World} {n : Int} {q : Bool} {B : Nat} (h : MyI w n q W) {row : Option Nat} (hg : W.grownBy W' row) (hB : w.heap.size ≤ B) (hr : ∀ r, row = some r → B ≤ r ∧ ∃ o : Obj, W.heap[r]? = some o ∧ o.isCells = false) : MyI w n q W' :=
  ⟨h.b3.noCells hg (fun r e => (hr r e).2), h.b4.noCells hg (fun r e => (hr r e).2), h.low.grown hg h.low.size (fun k e => Nat.le_trans hB (hr k e).1)⟩
theorem MyI.below {w W W' : World} {n : Int} {q : Bool} (h : MyI w n q W) (hb : Below W.heap.size W W') : MyI w n q W' := ⟨h.b3.below hb, h.b4.below hb, h.low.trans (hb.mono h.low.size)⟩
theorem MyI.put {w W : World} {n : Int} {q : Bool} {D : Nat} (h : MyI w n q W) (hD : w.heap.size + 2 ≤ D) (o : Obj) {o0 : Obj} (h0 : W.heap[D]? = some o0) (hc : o0.isCells = false) (hw : o0.isWalk = false) : MyI w n q (W.putObj D o) := by
  refine ⟨?_, ?_, h.low.trans (belowK_b (w := w) (Nat.le_refl _) W D _ _ (by omega) h0 hc hw)⟩
  · have := h.b3
    unfold Blk at this ⊢
    rw [World.putObj_heap_other (by omega)]; exact this
  · have := h.b4
    unfold Blk at this ⊢
    rw [World.putObj_heap_other (by omega)]; exact this
theorem MyI.turn {w W : World} {n : Int} {q : Bool} (h : MyI w n q W) (q' : Bool) : MyI w n q' (W.setCell ⟨w.heap.size + 1, 0, none⟩ (.bool q')) :=
  ⟨h.b3.set_other _ _ (by show w.heap.size ≠ w.heap.size + 1; omega), h.b4.set 0 _, h.low.setCell (p := ⟨w.heap.size + 1, 0, none⟩) (Nat.le_succ _) _⟩
set_option maxRecDepth 100000 in
set_option maxHeartbeats 4000000 in
theorem smay_any (l : List St) (v : Value) (n : Int) (w : World) (hr : RdTx w l v) (hok : ∀ s ∈ flatT l, okE s) (hsz : sizeT l ≤ 1000000) (hdp : depthT 0 l ≤ 1000000) :
    Calls Try.prog 36 #[v, .int .i64 n] w fun e' w' => e' = .returned (.bool (mayT l n)) ∧ Below w.heap.size w w' := by
  have HR := hid hr
  obtain ⟨a, cap, rfl, -, -⟩ := hr
  have HOK := hid hok
  have HSZ := hid hsz
  have HDP := hid hdp
  have HNL := hid (nodesL_le (w0 := w))
  clear hok hsz hdp
  have HMB : Hid (mayT l n = (!mayBad l n && (flatT l).all (fun s => shapedS s n) && (decide (sizeT l ≤ 40) && decide (nodesL (flatT l) ≤ 300)))) := hid rfl
  obtain ⟨w2, hw2⟩ : ∃ w2, w2 = (w.alloc (.cells #[.int .i64 n] 3)).alloc (.cells #[.bool false] 4) := ⟨_, rfl⟩
  have hI2 : MyI w n false w2 := by
    rw [hw2]
    exact ⟨(Blk.new _ _ _).alloc _, Blk.new' _ _ _ (by rw [World.size_alloc]), ext_alloc (ext_alloc (ext_refl w) _) _⟩
  have HS2 : Hid (w2.heap.size = w.heap.size + 2) := hid (by rw [hw2, World.size_alloc, World.size_alloc])
  have HW2 := hid hw2
  have HI2 := hid hI2
  have HDEP := hid (fun (W : World) (hb : Below w.heap.size w W) => depth_any (sizeT l + 1) l W _ (Nat.lt_succ_self _) (HR.out.below hb) HDP.out)
  have HCST := hid (fun (W : World) (hb : Below w.heap.size w W) => cost_any (sizeT l + 1) l W _ (Nat.lt_succ_self _) (HR.out.below hb))
  have HCNT := hid (fun (W : World) (hb : Below w.heap.size w W) => stCount_any l _ W (HR.out.below hb) HOK.out HSZ.out)
  obtain ⟨dn, hdn⟩ : ∃ dn, depthT 0 l + 1 = dn := ⟨_, rfl⟩
  obtain ⟨cs, hcs⟩ : ∃ cs, costT 0 l = cs := ⟨_, rfl⟩
  have HB : Hid (mayBad l n = (n < 0 || 6 ≤ n || decide (6 < dn) || decide (2000 < cs))) := hid (by unfold mayBad; rw [hdn, hcs])
  rw [hdn] at HDEP
  rw [hcs] at HCST
  have x3 := hI2.b3.cell 0 (v := .int .i64 n) rfl
  have x4 := hI2.b4.cell 0 (v := .bool false) rfl
  have y4 := hI2.b4.free 0
  have hl4 := hI2.b4.lt
  clear hI2 hw2 hdn hcs
  generalize mayT l n = res at *
  generalize mayBad l n = bad at *
  refine (callsIn_wide (n := 9)).1 ?_
  refine callsIn_of_wp_marks Try.func36 rfl trivial ?_ rfl
  simp only [Try.ntmps36, List.size_toArray, List.length_cons, List.length_nil, Nat.reduceAdd, Nat.reduceSub, Array.replicate_succ, Array.replicate_zero, List.push_toArray, List.append_toArray, List.nil_append, List.cons_append]
  by_cases h1 : n < 0
  · have k1 : decide (n < 0) = true := decide_eq_true h1
    obtain rfl : bad = true := by rw [HB.out, k1]; rfl
    obtain rfl : res = false := by rw [HMB.out]; rfl
    clear HB HMB HDEP HCST HCNT
    gi_wp2_with fail
    refine ⟨trivial, ?_⟩
    gi_wp2_with fail
    refine ⟨trivial, ?_⟩
    gi_wp2_with fail
    rw [← HW2.out]
    exact ⟨.bool false, by simp [results, Try.results36, go_sem, x4], rfl, HI2.out.low⟩
  by_cases h2 : 6 ≤ n
  · have k1 : decide (n < 0) = false := decide_eq_false h1
    have k2 : decide (6 ≤ n) = true := decide_eq_true h2
    obtain rfl : bad = true := by rw [HB.out, k1, k2]; rfl
    obtain rfl : res = false := by rw [HMB.out]; rfl
    clear HB HMB HDEP HCST HCNT
    gi_wp2_with fail
    refine ⟨trivial, ?_⟩
    gi_wp2_with fail
    refine ⟨trivial, ?_⟩
    gi_wp2_with fail
    rw [← HW2.out]
    exact ⟨.bool false, by simp [results, Try.results36, go_sem, x4], rfl, HI2.out.low⟩
  have k1 : decide (n < 0) = false := decide_eq_false h1
  have k2 : decide (6 ≤ n) = false := decide_eq_false h2
  by_cases h3 : 6 < dn
  · have k3 : decide (6 < (dn : Int)) = true := decide_eq_true (by omega)
    have k3n : decide (6 < dn) = true := decide_eq_true h3
    obtain rfl : bad = true := by rw [HB.out, k1, k2, k3n]; rfl
    obtain rfl : res = false := by rw [HMB.out]; rfl
    clear HB HMB HCST HCNT
    gi_wp2_with fail
    refine ⟨trivial, ?_⟩
    rw [← HW2.out]
    refine (callsIn_wide.2 (HDEP.out w2 HI2.out.low)).mono ?_
    rintro e' w3 ⟨rfl, hb3⟩
    have HI3 := hid (HI2.out.below hb3)
    have y3 := HI3.out.b3.cell 0 (v := .int .i64 n) rfl
    have y4 := HI3.out.b4.cell 0 (v := .bool false) rfl
    have yf := HI3.out.b4.free 0
    clear hb3
    gi_wp2_with fail
    refine ⟨trivial, ?_⟩
    gi_wp2_with fail
    have HT := hid (HI3.out.turn false)
    have z4 := HT.out.b4.cell 0 (v := .bool false) rfl
    exact ⟨.bool false, by simp [results, Try.results36, go_sem, z4], rfl, HT.out.low⟩
  have k3 : decide (6 < (dn : Int)) = false := decide_eq_false (by omega)
  have k3n : decide (6 < dn) = false := decide_eq_false h3
  gi_wp2_with fail
  refine ⟨trivial, ?_⟩
  rw [← HW2.out]
  refine (callsIn_wide.2 (HDEP.out w2 HI2.out.low)).mono ?_
  rintro e' w3 ⟨rfl, hb3⟩
  have HI3 := hid (HI2.out.below hb3)
  clear x3 x4 y4 hl4 hb3 HW2
  gi_wp2_with fail
  refine ⟨trivial, ?_⟩
  refine (callsIn_wide.2 (HCST.out w3 HI3.out.low)).mono ?_
  rintro e' w4 ⟨rfl, hb4⟩
  have HI4 := hid (HI3.out.below hb4)
  have y3 := HI4.out.b3.cell 0 (v := .int .i64 n) rfl
  have y4 := HI4.out.b4.cell 0 (v := .bool false) rfl
  have yf := HI4.out.b4.free 0
  clear hb4
  by_cases h4 : 2000 < cs
  · have k4 : decide (2000 < (cs : Int)) = true := decide_eq_true (by omega)
    have k4n : decide (2000 < cs) = true := decide_eq_true h4
    obtain rfl : bad = true := by rw [HB.out, k1, k2, k3n, k4n]; rfl
    obtain rfl : res = false := by rw [HMB.out]; rfl
    clear HB HMB HCNT
    gi_wp2_with fail
    have HT := hid (HI4.out.turn false)
    have z4 := HT.out.b4.cell 0 (v := .bool false) rfl
    exact ⟨.bool false, by simp [results, Try.results36, go_sem, z4], rfl, HT.out.low⟩
  have k4 : decide (2000 < (cs : Int)) = false := decide_eq_false (by omega)
  have k4n : decide (2000 < cs) = false := decide_eq_false h4
  obtain rfl : bad = false := by rw [HB.out, k1, k2, k3n, k4n]; rfl
  clear HB
  gi_wp2_with fail
  refine ⟨trivial, ?_⟩
  refine (callsIn_wide.2 (HCNT.out w4 HI4.out.low)).mono ?_
  rintro e' w5 ⟨rfl, hb5⟩
  have HI5 := hid (HI4.out.below hb5)
  clear y3 y4 yf hb5
  generalize sizeT l = ns at *
  generalize nodesL (flatT l) = nx at *
  gi_wp2_with fail
  refine ⟨trivial, ?_⟩
  refine (callsIn_wide.2 (all_any _ l w5 (HR.out.below HI5.out.low))).mono ?_
  rintro e' w6 ⟨rfl, hw6⟩
  have hb6 : Below w5.heap.size w5 w6 := by rw [hw6]; exact ext_alloc (ext_refl _) _
  have HI6 := hid (HI5.out.below hb6)
  have HS6 : Hid (w.heap.size + 2 ≤ w6.heap.size) := hid (by have := HI6.out.b4.lt; omega)
  have kb : Blk w6 w5.heap.size #[.slice a l.length cap] 56 := by rw [hw6]; exact Blk.new _ _ _
  have HRUN := hid (all_seq 8 l _ _ w w6 HR.out HI6.out.low kb HOK.out)
  clear hb6 hw6 kb
  gi_wp2_with fail
  apply wpIn_rangeFunc_boxed (α := Item w) (encs := Item.enc) (Kp := KeepE w.heap.size) (S := fun xs => xs.map Item.st = flatT l) (Sp := fun xs => ∀ s ∈ xs.map Item.st, s ∈ flatT l) (N := sizeT l) (w0 := w6) rfl (by omega) (gf := 65) (lb := #[.pointer (some ⟨w5.heap.size, 0, none⟩)]) rfl trivial (enters_of Try.func65 (by kernel_rfl) rfl) HRUN.out keepE_t (keepE_b (by have := HS6.out; omega)) (Below.refl _ _) (fun _ => rfl)
    (fun pre W => MyI w n false W ∧ ∀ s ∈ pre.map Item.st, shapedS s n = true) (fun c pre W => c = .ret ∧ MyI w n false W ∧ ∃ s ∈ pre.map Item.st, shapedS s n = false)
    (fun s A B row h hg hr => ⟨h.1.noCells hg (by have := HS6.out; omega) hr, h.2⟩) (fun c s A B row h hg hr => ⟨h.1, h.2.1.noCells hg (by have := HS6.out; omega) hr, h.2.2⟩) ⟨HI6.out, fun s hs => by simp at hs⟩
    (fun pre x a' W => ∃ b k t a0 a1 a2 b0 b1 b2 bo el, a' = { tmps := #[.slice a l.length cap, .int .i64 n, undef, .pointer (some ⟨w.heap.size, 0, none⟩), .pointer (some ⟨w.heap.size + 1, 0, none⟩), .int .i64 (ns : Int), .int .i64 (nx : Int), .pointer (some ⟨b, 0, none⟩), .int .i64 n, .bool false, .bool false, .int .i64 n, .bool false, .bool false, .bool false, .slice a l.length cap, .int .i64 (dn : Int), .bool false, .bool false, .bool false, .slice a l.length cap, .int .i64 (cs : Int), .bool false, .bool false, .tuple #[.int .i64 (ns : Int), .int .i64 (nx : Int)], .slice a l.length cap, .tuple #[.int .i64 (ns : Int), .int .i64 (nx : Int)], .int .i64 (ns : Int), .int .i64 (nx : Int), .slice a l.length cap, .func (.func 65) #[] #[.pointer (some ⟨w5.heap.size, 0, none⟩)], .agg #[k, t, a0, a1, a2, b0, b1, b2, bo, el], undef, undef, undef, undef, undef, undef, undef, undef, undef, undef], defers := [] } ∧ RdSt w x.st k t a0 a1 a2 b0 b1 b2 bo el ∧
      Blk W b #[k, t, a0, a1, a2, b0, b1, b2, bo, el] 91 ∧ MyI w n false W ∧ ∀ s ∈ pre.map Item.st, shapedS s n = true)
    (fun pre x a' _ A B row h hg hr => by
      obtain ⟨b, k, t, a0, a1, a2, b0, b1, b2, bo, el, h1, h2, h3, h4, h5⟩ := h
      exact ⟨b, k, t, a0, a1, a2, b0, b1, b2, bo, el, h1, h2, h3.noCells hg (fun r e => (hr r e).2), h4.noCells hg (by have := HS6.out; omega) hr, h5⟩)
  case hassign =>
    rintro lp pre x W K ⟨hI, hsh⟩ hK
    obtain ⟨⟨st, xv⟩, ⟨k, t, a0, a1, a2, b0, b1, b2, bo, el, hxv, hst⟩, hok⟩ := x
    dsimp only at hxv hst hok
    subst hxv
    obtain ⟨rfl, rfl, ga, gb, g3, g4⟩ := hst.shape
    obtain ⟨pa, ca, rfl, rfl, rfl⟩ := ga.shape
    obtain ⟨pb, cb, rfl, rfl, rfl⟩ := gb.shape
    obtain ⟨pp, c1, rfl, -, -⟩ := g3
    obtain ⟨pq, c2, rfl, -, -⟩ := g4
    have HK := hid hK
    have HI := hid hI
    have HST := hid hst
    have HSH := hid hsh
    clear hK hI hsh ga gb
    unfold Item.enc
    gi_wp2
    exact HK.out _ _ (KeepsOthers.alloc _ _) (keepE_still HI.out.low.size (ext_alloc (ext_refl _) _) (KeepsWalks.alloc _ _)) ⟨W.heap.size, _, _, _, _, _, _, _, _, _, _, rfl, HST.out, Blk.new _ _ _, HI.out.below (ext_alloc (ext_refl _) _), HSH.out⟩
  case hbody =>
    rintro lp pre x a' W ⟨b, k, t, a0, a1, a2, b0, b1, b2, bo, el, rfl, hst, hbx, hI, hsh⟩ hlen
    have HSN : Hid (∀ q, shapedS x.st n = q → (q = true → ∀ s ∈ (pre ++ [x]).map Item.st, shapedS s n = true) ∧ (q = false → ∃ s ∈ (pre ++ [x]).map Item.st, shapedS s n = false)) := hid (by
      intro q hq
      refine ⟨fun h s hs => ?_, fun h => ⟨x.st, by simp, by rw [hq, h]⟩⟩
      rw [List.map_append, List.mem_append] at hs
      rcases hs with hs | hs
      · exact hsh s hs
      · simp at hs; subst hs; rw [hq, h])
    clear hlen hsh
    generalize x.st = st at *
    obtain ⟨rfl, rfl, ga, gb, g3, g4⟩ := hst.shape
    obtain ⟨pa, ca, rfl, rfl, rfl⟩ := ga.shape
    obtain ⟨pb, cb, rfl, rfl, rfl⟩ := gb.shape
    obtain ⟨pp, c1, rfl, -, -⟩ := g3
    obtain ⟨pq, c2, rfl, -, -⟩ := g4
    have d0 := hbx.cell 0 (v := .int .u8 st.kind) rfl
    have d1 := hbx.cell 1 (v := .int .i64 st.to) rfl
    have d2 := hbx.cell 2 (v := .int .u8 st.a.op) rfl
    have d3 := hbx.cell 3 (v := .int .i64 st.a.n) rfl
    have d4 := hbx.cell 4 (v := .slice pa st.a.args.length ca) rfl
    have d5 := hbx.cell 5 (v := .int .u8 st.b.op) rfl
    have d6 := hbx.cell 6 (v := .int .i64 st.b.n) rfl
    have d7 := hbx.cell 7 (v := .slice pb st.b.args.length cb) rfl
    have d8 := hbx.cell 8 (v := .slice pp st.body.length c1) rfl
    have d9 := hbx.cell 9 (v := .slice pq st.els.length c2) rfl
    have x3 := hI.b3.cell 0 (v := .int .i64 n) rfl
    have HST := hid (hst.below hI.low)
    have HI := hid hI
    clear ga gb hst hI hbx
    gi_wp2
    refine ⟨trivial, ?_⟩
    refine ((callsIn_wide.2 (shaped_any st n W _ _ _ _ _ _ _ _ _ _ HST.out)).inRound lp).mono ?_
    rintro e' W2 ⟨rfl, hb2⟩
    have HI2 := hid (HI.out.below hb2)
    have HKO := hid (keepsOthers_below hb2)
    have HKE := hid (keepE_still (n₀ := w.heap.size) HI.out.low.size hb2 (keepsOthers_below hb2).walks)
    have z4 := HI2.out.b4.cell 0 (v := .bool false) rfl
    have zf := HI2.out.b4.free 0
    clear hb2 d0 d1 d2 d3 d4 d5 d6 d7 d8 d9 x3
    generalize shapedS st n = q at *
    cases q with
    | true =>
      have hs2 := (HSN.out _ rfl).1 rfl
      have HE : Hid (KeepsOthers W W2 ∧ KeepE w.heap.size W W2 ∧ MyI w n false W2 ∧ ∀ s ∈ (pre ++ [x]).map Item.st, shapedS s n = true) := hid ⟨HKO.out, HKE.out, HI2.out, hs2⟩
      clear hs2
      gi_wp2
      exact HE.out
    | false =>
      have hs2 := (HSN.out _ rfl).2 rfl
      have HE : Hid (KeepsOthers W (W2.setCell ⟨w.heap.size + 1, 0, none⟩ (.bool false)) ∧ MyI w n false (W2.setCell ⟨w.heap.size + 1, 0, none⟩ (.bool false)) ∧ ∃ s ∈ (pre ++ [x]).map Item.st, shapedS s n = false) := hid ⟨HKO.out.trans (KeepsOthers.setCell _ _ _), HI2.out.turn false, hs2⟩
      clear hs2
      gi_wp2
      exact ⟨HE.out.1, rfl, HE.out.2⟩
  case hdone =>
    rintro D xs W hD hS ⟨hI, hsh⟩ hK
    have hall : (flatT l).all (fun s => shapedS s n) = true := by
      rw [List.all_eq_true]
      intro s hs
      rw [← hS] at hs
      exact hsh s hs
    have HQ : Hid (res = (decide (ns ≤ 40) && decide (nx ≤ 300))) := hid (by rw [HMB.out, hall]; simp)
    have HD := hid hD
    have HK := hid hK
    have HI := hid hI
    have z4 := hI.b4.cell 0 (v := .bool false) rfl
    have zf := hI.b4.free 0
    have hfin : ∀ q : Bool, res = q → (MyI w n q (W.setCell ⟨w.heap.size + 1, 0, none⟩ (.bool q)) ∧ (W.setCell ⟨w.heap.size + 1, 0, none⟩ (.bool q)).heap[D]? = some (.deferred (some []))) := fun q _ => ⟨HI.out.turn q, (KeepsOthers.setCell _ _ _).same _ _ HK.out rfl⟩
    have HF := hid hfin
    clear hall hS hsh hD hK hI hfin HMB
    by_cases n1 : ns ≤ 40
    · have q1 : decide (ns ≤ 40) = true := decide_eq_true n1
      have q1i : decide ((ns : Int) ≤ 40) = true := decide_eq_true (by omega)
      by_cases n2 : nx ≤ 300
      · have q2 : decide (nx ≤ 300) = true := decide_eq_true n2
        have q2i : decide ((nx : Int) ≤ 300) = true := decide_eq_true (by omega)
        obtain rfl : res = true := by rw [HQ.out, q1, q2]; rfl
        gi_wp2
        obtain ⟨h1, h2⟩ := HF.out true rfl
        have HP := hid (h1.put (by have := HD.out; have := HS6.out; omega) (.deferred none) h2 rfl rfl)
        have z5 := HP.out.b4.cell 0 (v := .bool true) rfl
        exact ⟨by simp, .inl ⟨_, _, rfl, run_takeDeferred h2, .bool true, by simp [results, Try.results36, go_sem, z5], rfl, HP.out.low⟩⟩
      · have q2 : decide (nx ≤ 300) = false := decide_eq_false n2
        have q2i : decide ((nx : Int) ≤ 300) = false := decide_eq_false (by omega)
        obtain rfl : res = false := by rw [HQ.out, q1, q2]; rfl
        gi_wp2
        obtain ⟨h1, h2⟩ := HF.out false rfl
        have HP := hid (h1.put (by have := HD.out; have := HS6.out; omega) (.deferred none) h2 rfl rfl)
        have z5 := HP.out.b4.cell 0 (v := .bool false) rfl
        exact ⟨by simp, .inl ⟨_, _, rfl, run_takeDeferred h2, .bool false, by simp [results, Try.results36, go_sem, z5], rfl, HP.out.low⟩⟩
    · have q1 : decide (ns ≤ 40) = false := decide_eq_false n1
      have q1i : decide ((ns : Int) ≤ 40) = false := decide_eq_false (by omega)
      obtain rfl : res = false := by rw [HQ.out, q1]; rfl
      gi_wp2
      obtain ⟨h1, h2⟩ := HF.out false rfl
      have HP := hid (h1.put (by have := HD.out; have := HS6.out; omega) (.deferred none) h2 rfl rfl)
      have z5 := HP.out.b4.cell 0 (v := .bool false) rfl
      exact ⟨by simp, .inl ⟨_, _, rfl, run_takeDeferred h2, .bool false, by simp [results, Try.results36, go_sem, z5], rfl, HP.out.low⟩⟩
  case hstop =>
    rintro D c pre W hD hSp ⟨rfl, hI, s, hs, hsf⟩ hK
    obtain rfl : res = false := by
      rw [HMB.out]
      have : (flatT l).all (fun s => shapedS s n) = false := by
        rw [List.all_eq_false]
        exact ⟨s, hSp s hs, by simp [hsf]⟩
      rw [this]; rfl
    have HD := hid hD
    have HI := hid hI
    have HK := hid hK
    clear hD hI hK hs hSp hsf
    gi_wp2
    have HP := hid (HI.out.put (by have := HD.out; have := HS6.out; omega) (.deferred none) HK.out rfl rfl)
    have z4 := HP.out.b4.cell 0 (v := .bool false) rfl
    refine ⟨by simp, .inl ⟨_, _, rfl, run_takeDeferred HK.out, ?_⟩⟩
    exact ⟨.bool false, by simp [results, Try.results36, go_sem, z4], rfl, HP.out.low⟩
end Go.Proofs.Ytaklfjjkeebheaa
