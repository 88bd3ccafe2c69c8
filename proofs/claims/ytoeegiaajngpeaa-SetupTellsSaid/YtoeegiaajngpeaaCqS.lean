/-
  Walks: the document's shaped and May (printed by tools/gen_cqs.py).
-/
import Derived.Test.YtoeegiaajngpeaaCqN
import Derived.Test.YtoeegiaajngpeaaCoMy
import Derived.Test.YtoeegiaajngpeaaSuC
namespace Go.Proofs.Ytoeegiaajngpeaa
set_option linter.unusedVariables false
set_option linter.unusedSimpArgs false
set_option linter.unusedVariables false
open Go Go.RowKit
def shT (l : List St) (n : Int) : Bool := (flatT l).all fun s => shapedS s n
theorem shT_app (a b : List St) (n : Int) : ((flatT (a ++ b)).all fun s => shapedS s n) = (shT a n && shT b n) := by rw [flatT_append, List.all_append]; rfl
theorem shS_parts (s : St) (n : Int) : ((flatS s).all fun s => shapedS s n) = (shapedS s n && shT s.body n && shT s.els n) := by
  rw [flatS_is, List.all_cons, List.all_append, Bool.and_assoc]; rfl
theorem shT_take {l : List St} {k : Nat} (h : k < l.length) (n : Int) : shT (l.take (k + 1)) n = (shT (l.take k) n && (shapedS (l[k]'h) n && shT (l[k]'h).body n && shT (l[k]'h).els n)) := by
  unfold shT
  rw [flatT_take l k h, List.all_append, shS_parts]
  rfl
theorem shT_no {l : List St} {k : Nat} (h : k < l.length) {n : Int} (hn : (shapedS (l[k]'h) n && shT (l[k]'h).body n && shT (l[k]'h).els n) = false) : shT l n = false := by
  have e : shT l n = (shT (l.take (k + 1)) n && shT (l.drop (k + 1)) n) := by
    rw [← shT_app, List.take_append_drop]; rfl
  rw [e, shT_take h, hn]
  simp
theorem shapedS_of (s : St) (n : Int) (x : Asks) (h : asksS s.kind = x) : shapedS s n = (x.is_ && !toBad x s.to && fitsS x.a_ s.a n && fitsS x.b_ s.b n && (x.body_ || s.body.isEmpty) && (x.other_ || s.els.isEmpty)) := by
  unfold shapedS; rw [h]
set_option maxRecDepth 100000 in
set_option maxHeartbeats 4000000 in
theorem rshaped_any (s : Nat) : ∀ (l : List St) (n : Int) (w : World) (v : Value), sizeT l < s → RdTx w l v →
    Calls Try.prog 51 #[v, .int .i64 n] w fun e' w' => e' = .returned (.bool (shT l n)) ∧ Below w.heap.size w w' := by
  induction s with
  | zero => intro l n w v h; omega
  | succ s ih =>
  intro l n w v hs hr
  obtain ⟨a, cap, rfl, hlen, hx⟩ := hr
  have IH := hid ih; clear ih
  have HS := hid hs; clear hs
  have HX := hid hx; clear hx
  go_enter Try.func51, Try.ntmps51
  go_wp2_with fail
  go_loopw [5] (fun i wr => ∃ (k : Nat), k ≤ l.length ∧ i = .int .i64 k ∧ Hid (shT (l.take k) n = true) ∧ Hid (Below w.heap.size w wr)) (fun i _ => l.length - (intOf i).toNat)
  case atStart => exact ⟨0, Nat.zero_le _, rfl, hid (by simp [shT, flatT]), hid (ext_refl _)⟩
  case round =>
    obtain ⟨k, hk, rfl, HK, HB⟩ := hrel
    by_cases hlt : k < l.length
    · obtain ⟨q, off, rfl, hrd⟩ := HX.out (by intro h; subst h; simp at hlt)
      obtain ⟨pa, ca, pb, cb, po, co, pe, ce, e0, e1, e2, e3, e4, e5, e6, e7, e8, e9, hst⟩ := hrd.get10 k hlt
      have hle := sizeT_get l k hlt
      have HLT := hid hlt
      have HTK := hid (shT_take hlt n)
      have HNO : Hid ((shapedS (l[k]'hlt) n && shT (l[k]'hlt).body n && shT (l[k]'hlt).els n) = false → shT l n = false) := hid (fun h => shT_no hlt h)
      have j1 : decide ((k : Int) < (l.length : Int)) = true := by rw [decide_eq_true_iff]; omega
      have j1n : decide (k < l.length) = true := decide_eq_true hlt
      have j2 : (0 : Int) ≤ (k : Int) := by omega
      have j2n : (k : Int) < (l.length : Int) := by omega
      have j3 : IntKind.i64.wrap ((k : Int) + 1) = (k : Int) + 1 := IntWalk.i64_in _ (by omega)
      generalize hxx : l[k]'hlt = x at e0 e1 e2 e3 e4 e5 e6 e7 e8 e9 hst hle HTK HNO
      clear hxx
      obtain ⟨-, -, ga, gb, g3, g4⟩ := hst.shape
      have hs1 := sizeS_body x
      have hs2 := sizeS_els x
      have hss := HS.out
      have hb := HB.out
      have d0 := later hb e0
      have d1 := later hb e1
      have d2 := later hb e2
      have d3 := later hb e3
      have d4 := later hb e4
      have d5 := later hb e5
      have d6 := later hb e6
      have d7 := later hb e7
      have d8 := later hb e8
      have d9 := later hb e9
      have hbl := lt_of_cell d0
      have HIB := hid (fun (W : World) (h : Below w.heap.size w W) => IH.out x.body n W (.slice po x.body.length co) (by omega) (g3.below h))
      have HIE := hid (fun (W : World) (h : Below w.heap.size w W) => IH.out x.els n W (.slice pe x.els.length ce) (by omega) (g4.below h))
      have HMA := hid (fun (W : World) (h : Below w.heap.size w W) => rmay_any x.a n W _ _ _ (ga.below h))
      have HMB := hid (fun (W : World) (h : Below w.heap.size w W) => rmay_any x.b n W _ _ _ (gb.below h))
      have HNA := hid (fun (W : World) (h : Below w.heap.size w W) => rnone_any x.a W _ _ _ (ga.below h))
      have HNB := hid (fun (W : World) (h : Below w.heap.size w W) => rnone_any x.b W _ _ _ (gb.below h))
      have HSH := hid (shapedS_of x n)
      have HLB : Hid (x.body.isEmpty = decide (x.body.length = 0)) := hid len_zero
      have HLE : Hid (x.els.isEmpty = decide (x.els.length = 0)) := hid len_zero
      generalize hkd : x.kind = kd at d0 HSH
      clear hkd e0 e1 e2 e3 e4 e5 e6 e7 e8 e9 hle hs1 hs2 hss hrd hst ga gb g3 g4
      generalize shT x.body n = qo at *
      generalize shT x.els n = qe at *
      obtain ⟨WB, hWB⟩ : ∃ WB, WB = wr.alloc (.cells #[.int .u8 kd, .int .i64 x.to, .int .u8 x.a.op, .int .i64 x.a.n, .slice pa x.a.args.length ca, .int .u8 x.b.op, .int .i64 x.b.n, .slice pb x.b.args.length cb, .slice po x.body.length co, .slice pe x.els.length ce] 42) := ⟨_, rfl⟩
      have HWB := hid hWB
      have HBK : Hid (Blk WB wr.heap.size #[.int .u8 kd, .int .i64 x.to, .int .u8 x.a.op, .int .i64 x.a.n, .slice pa x.a.args.length ca, .int .u8 x.b.op, .int .i64 x.b.n, .slice pb x.b.args.length cb, .slice po x.body.length co, .slice pe x.els.length ce] 42) := hid (by rw [hWB]; exact Blk.new _ _ _)
      have HBW : Hid (Below w.heap.size w WB) := hid (ext_trans hb (by rw [hWB]; exact ext_alloc (ext_refl _) _))
      clear hWB hb
      have hto : (x.to < 0 ∨ ¬ x.to < 0) := Classical.em _
      by_cases k1 : kd = 1
      case pos =>
        subst k1
        have HSP : Hid (shapedS x n = _) := hid (HSH.out ⟨true, true, true, false, false, false⟩ rfl)
        by_cases h1 : x.to < 0
        case pos =>
          have hbad : shapedS x n = false := by rw [HSP.out]; simp [toBad, h1]
          have HR := hid (HNO.out (by rw [hbad]; rfl))
          clear hbad
          have f1 : decide (x.to < 0) = true := decide_eq_true (by omega)
          go_wp2_with fail
          rw [← HWB.out]
          go_ret
          exact ⟨by rw [HR.out]; rfl, HBW.out⟩
        have f1 : decide (x.to < 0) = false := decide_eq_false (by omega)
        by_cases h2 : 7 < x.to
        case pos =>
          have hbad : shapedS x n = false := by rw [HSP.out]; simp [toBad, show 8 ≤ x.to by omega]
          have HR := hid (HNO.out (by rw [hbad]; rfl))
          clear hbad
          have f2 : decide (7 < x.to) = true := decide_eq_true (by omega)
          go_wp2_with fail
          rw [← HWB.out]
          go_ret
          exact ⟨by rw [HR.out]; rfl, HBW.out⟩
        have f2 : decide (7 < x.to) = false := decide_eq_false (by omega)
        by_cases h4 : 0 < x.body.length
        case pos =>
          have hbad : shapedS x n = false := by rw [HSP.out]; rw [HLB.out]; simp [show ¬ x.body.length = 0 by omega]
          have HR := hid (HNO.out (by rw [hbad]; rfl))
          clear hbad
          have fh4 : decide ((0 : Int) < (x.body.length : Int)) = true := decide_eq_true (by omega)
          have fh4n : decide (0 < x.body.length) = true := decide_eq_true (by omega)
          go_wp2_with fail
          rw [← HWB.out]
          go_ret
          exact ⟨by rw [HR.out]; rfl, HBW.out⟩
        have fh4 : decide ((0 : Int) < (x.body.length : Int)) = false := decide_eq_false (by omega)
        have fh4n : decide (0 < x.body.length) = false := decide_eq_false (by omega)
        have Hh4 := hid h4
        by_cases h5 : 0 < x.els.length
        case pos =>
          have hbad : shapedS x n = false := by rw [HSP.out]; rw [HLE.out]; simp [show ¬ x.els.length = 0 by omega]
          have HR := hid (HNO.out (by rw [hbad]; rfl))
          clear hbad
          have fh5 : decide ((0 : Int) < (x.els.length : Int)) = true := decide_eq_true (by omega)
          have fh5n : decide (0 < x.els.length) = true := decide_eq_true (by omega)
          go_wp2_with fail
          rw [← HWB.out]
          go_ret
          exact ⟨by rw [HR.out]; rfl, HBW.out⟩
        have fh5 : decide ((0 : Int) < (x.els.length : Int)) = false := decide_eq_false (by omega)
        have fh5n : decide (0 < x.els.length) = false := decide_eq_false (by omega)
        have Hh5 := hid h5
        have HSQ : Hid (shapedS x n = (fitsS true x.a n && fitsS false x.b n)) := hid (by rw [HSP.out, HLB.out, HLE.out]; simp [toBad, show ¬ x.to < 0 from h1, show ¬ 8 ≤ x.to by omega, show x.body.length = 0 by omega, show x.els.length = 0 by omega])
        have HFA := hid (fun (W : World) (h : Below w.heap.size w W) => HMA.out W h)
        have HFB := hid (fun (W : World) (h : Below w.heap.size w W) => HNB.out W h)
        have HQA : Hid (fitsS true x.a n = mayS x.a n) := hid rfl
        have HQB : Hid (fitsS false x.b n = noneS x.b) := hid rfl
        generalize mayS x.a n = qa at HFA HQA
        generalize noneS x.b = qb at HFB HQB
        rw [HQA.out, HQB.out] at HSQ
        clear h1 h2 h4 h5 HSP HSH HMA HMB HNA HNB HLB HLE
        go_wp2_with fail
        rw [← HWB.out]
        refine (HFA.out _ HBW.out).mono ?_
        rintro e' w1 ⟨rfl, hb1⟩
        have HBK := hid (HBK.out.below hb1)
        have HBW := hid (ext_trans HBW.out hb1)
        clear hb1
        have c5 := HBK.out.cell 5 (v := .int .u8 x.b.op) rfl
        have c6 := HBK.out.cell 6 (v := .int .i64 x.b.n) rfl
        have c7 := HBK.out.cell 7 (v := .slice pb x.b.args.length cb) rfl
        have c8 := HBK.out.cell 8 (v := .slice po x.body.length co) rfl
        have c9 := HBK.out.cell 9 (v := .slice pe x.els.length ce) rfl
        have cl1 := HBK.out.lt
        cases qa with
        | false =>
          have HR := hid (HNO.out (by rw [HSQ.out]; simp))
          go_wp2_with fail
          go_ret
          exact ⟨by rw [HR.out]; rfl, HBW.out⟩
        | true =>
        go_wp2_with fail
        refine (HFB.out _ HBW.out).mono ?_
        rintro e' w2 ⟨rfl, hb2⟩
        have HBK := hid (HBK.out.below hb2)
        have HBW := hid (ext_trans HBW.out hb2)
        clear hb2
        have c8 := HBK.out.cell 8 (v := .slice po x.body.length co) rfl
        have c9 := HBK.out.cell 9 (v := .slice pe x.els.length ce) rfl
        have cl2 := HBK.out.lt
        cases qb with
        | false =>
          have HR := hid (HNO.out (by rw [HSQ.out]; simp))
          go_wp2_with fail
          go_ret
          exact ⟨by rw [HR.out]; rfl, HBW.out⟩
        | true =>
        go_wp2_with fail
        refine (HIB.out _ HBW.out).mono ?_
        rintro e' w3 ⟨rfl, hb3⟩
        have HBK := hid (HBK.out.below hb3)
        have HBW := hid (ext_trans HBW.out hb3)
        clear hb3
        have c9 := HBK.out.cell 9 (v := .slice pe x.els.length ce) rfl
        have cl3 := HBK.out.lt
        cases qo with
        | false =>
          have HR := hid (HNO.out (by rw [HSQ.out]; simp))
          go_wp2_with fail
          go_ret
          exact ⟨by rw [HR.out]; rfl, HBW.out⟩
        | true =>
        go_wp2_with fail
        refine (HIE.out _ HBW.out).mono ?_
        rintro e' w4 ⟨rfl, hb4⟩
        have HBW := hid (ext_trans HBW.out hb4)
        clear hb4
        cases qe with
        | false =>
          have HR := hid (HNO.out (by rw [HSQ.out]; simp))
          go_wp2_with fail
          go_ret
          exact ⟨by rw [HR.out]; rfl, HBW.out⟩
        | true =>
        go_wp2_with fail
        go_roundw
        case rel => exact ⟨k + 1, HLT.out, by go_num, hid (by rw [HTK.out, HK.out, HSQ.out]; rfl), HBW⟩
        case measure => have := HLT.out; simp [intOf]; omega
      have kk1 : (kd == 1) = false := beq_eq_false_iff_ne.2 k1
      by_cases k2 : kd = 2
      case pos =>
        subst k2
        have HSP : Hid (shapedS x n = _) := hid (HSH.out ⟨true, true, true, false, false, false⟩ rfl)
        by_cases h1 : x.to < 0
        case pos =>
          have hbad : shapedS x n = false := by rw [HSP.out]; simp [toBad, h1]
          have HR := hid (HNO.out (by rw [hbad]; rfl))
          clear hbad
          have f1 : decide (x.to < 0) = true := decide_eq_true (by omega)
          go_wp2_with fail
          rw [← HWB.out]
          go_ret
          exact ⟨by rw [HR.out]; rfl, HBW.out⟩
        have f1 : decide (x.to < 0) = false := decide_eq_false (by omega)
        by_cases h2 : 7 < x.to
        case pos =>
          have hbad : shapedS x n = false := by rw [HSP.out]; simp [toBad, show 8 ≤ x.to by omega]
          have HR := hid (HNO.out (by rw [hbad]; rfl))
          clear hbad
          have f2 : decide (7 < x.to) = true := decide_eq_true (by omega)
          go_wp2_with fail
          rw [← HWB.out]
          go_ret
          exact ⟨by rw [HR.out]; rfl, HBW.out⟩
        have f2 : decide (7 < x.to) = false := decide_eq_false (by omega)
        by_cases h4 : 0 < x.body.length
        case pos =>
          have hbad : shapedS x n = false := by rw [HSP.out]; rw [HLB.out]; simp [show ¬ x.body.length = 0 by omega]
          have HR := hid (HNO.out (by rw [hbad]; rfl))
          clear hbad
          have fh4 : decide ((0 : Int) < (x.body.length : Int)) = true := decide_eq_true (by omega)
          have fh4n : decide (0 < x.body.length) = true := decide_eq_true (by omega)
          go_wp2_with fail
          rw [← HWB.out]
          go_ret
          exact ⟨by rw [HR.out]; rfl, HBW.out⟩
        have fh4 : decide ((0 : Int) < (x.body.length : Int)) = false := decide_eq_false (by omega)
        have fh4n : decide (0 < x.body.length) = false := decide_eq_false (by omega)
        have Hh4 := hid h4
        by_cases h5 : 0 < x.els.length
        case pos =>
          have hbad : shapedS x n = false := by rw [HSP.out]; rw [HLE.out]; simp [show ¬ x.els.length = 0 by omega]
          have HR := hid (HNO.out (by rw [hbad]; rfl))
          clear hbad
          have fh5 : decide ((0 : Int) < (x.els.length : Int)) = true := decide_eq_true (by omega)
          have fh5n : decide (0 < x.els.length) = true := decide_eq_true (by omega)
          go_wp2_with fail
          rw [← HWB.out]
          go_ret
          exact ⟨by rw [HR.out]; rfl, HBW.out⟩
        have fh5 : decide ((0 : Int) < (x.els.length : Int)) = false := decide_eq_false (by omega)
        have fh5n : decide (0 < x.els.length) = false := decide_eq_false (by omega)
        have Hh5 := hid h5
        have HSQ : Hid (shapedS x n = (fitsS true x.a n && fitsS false x.b n)) := hid (by rw [HSP.out, HLB.out, HLE.out]; simp [toBad, show ¬ x.to < 0 from h1, show ¬ 8 ≤ x.to by omega, show x.body.length = 0 by omega, show x.els.length = 0 by omega])
        have HFA := hid (fun (W : World) (h : Below w.heap.size w W) => HMA.out W h)
        have HFB := hid (fun (W : World) (h : Below w.heap.size w W) => HNB.out W h)
        have HQA : Hid (fitsS true x.a n = mayS x.a n) := hid rfl
        have HQB : Hid (fitsS false x.b n = noneS x.b) := hid rfl
        generalize mayS x.a n = qa at HFA HQA
        generalize noneS x.b = qb at HFB HQB
        rw [HQA.out, HQB.out] at HSQ
        clear h1 h2 h4 h5 HSP HSH HMA HMB HNA HNB HLB HLE
        go_wp2_with fail
        rw [← HWB.out]
        refine (HFA.out _ HBW.out).mono ?_
        rintro e' w1 ⟨rfl, hb1⟩
        have HBK := hid (HBK.out.below hb1)
        have HBW := hid (ext_trans HBW.out hb1)
        clear hb1
        have c5 := HBK.out.cell 5 (v := .int .u8 x.b.op) rfl
        have c6 := HBK.out.cell 6 (v := .int .i64 x.b.n) rfl
        have c7 := HBK.out.cell 7 (v := .slice pb x.b.args.length cb) rfl
        have c8 := HBK.out.cell 8 (v := .slice po x.body.length co) rfl
        have c9 := HBK.out.cell 9 (v := .slice pe x.els.length ce) rfl
        have cl1 := HBK.out.lt
        cases qa with
        | false =>
          have HR := hid (HNO.out (by rw [HSQ.out]; simp))
          go_wp2_with fail
          go_ret
          exact ⟨by rw [HR.out]; rfl, HBW.out⟩
        | true =>
        go_wp2_with fail
        refine (HFB.out _ HBW.out).mono ?_
        rintro e' w2 ⟨rfl, hb2⟩
        have HBK := hid (HBK.out.below hb2)
        have HBW := hid (ext_trans HBW.out hb2)
        clear hb2
        have c8 := HBK.out.cell 8 (v := .slice po x.body.length co) rfl
        have c9 := HBK.out.cell 9 (v := .slice pe x.els.length ce) rfl
        have cl2 := HBK.out.lt
        cases qb with
        | false =>
          have HR := hid (HNO.out (by rw [HSQ.out]; simp))
          go_wp2_with fail
          go_ret
          exact ⟨by rw [HR.out]; rfl, HBW.out⟩
        | true =>
        go_wp2_with fail
        refine (HIB.out _ HBW.out).mono ?_
        rintro e' w3 ⟨rfl, hb3⟩
        have HBK := hid (HBK.out.below hb3)
        have HBW := hid (ext_trans HBW.out hb3)
        clear hb3
        have c9 := HBK.out.cell 9 (v := .slice pe x.els.length ce) rfl
        have cl3 := HBK.out.lt
        cases qo with
        | false =>
          have HR := hid (HNO.out (by rw [HSQ.out]; simp))
          go_wp2_with fail
          go_ret
          exact ⟨by rw [HR.out]; rfl, HBW.out⟩
        | true =>
        go_wp2_with fail
        refine (HIE.out _ HBW.out).mono ?_
        rintro e' w4 ⟨rfl, hb4⟩
        have HBW := hid (ext_trans HBW.out hb4)
        clear hb4
        cases qe with
        | false =>
          have HR := hid (HNO.out (by rw [HSQ.out]; simp))
          go_wp2_with fail
          go_ret
          exact ⟨by rw [HR.out]; rfl, HBW.out⟩
        | true =>
        go_wp2_with fail
        go_roundw
        case rel => exact ⟨k + 1, HLT.out, by go_num, hid (by rw [HTK.out, HK.out, HSQ.out]; rfl), HBW⟩
        case measure => have := HLT.out; simp [intOf]; omega
      have kk2 : (kd == 2) = false := beq_eq_false_iff_ne.2 k2
      by_cases k3 : kd = 3
      case pos =>
        subst k3
        have HSP : Hid (shapedS x n = _) := hid (HSH.out ⟨true, false, true, true, false, false⟩ rfl)
        by_cases h1 : x.to < 0
        case pos =>
          have hbad : shapedS x n = false := by rw [HSP.out]; simp [toBad, h1]
          have HR := hid (HNO.out (by rw [hbad]; rfl))
          clear hbad
          have f1 : decide (x.to < 0) = true := decide_eq_true (by omega)
          go_wp2_with fail
          rw [← HWB.out]
          go_ret
          exact ⟨by rw [HR.out]; rfl, HBW.out⟩
        have f1 : decide (x.to < 0) = false := decide_eq_false (by omega)
        by_cases h2 : 7 < x.to
        case pos =>
          have hbad : shapedS x n = false := by rw [HSP.out]; simp [toBad, show 8 ≤ x.to by omega]
          have HR := hid (HNO.out (by rw [hbad]; rfl))
          clear hbad
          have f2 : decide (7 < x.to) = true := decide_eq_true (by omega)
          go_wp2_with fail
          rw [← HWB.out]
          go_ret
          exact ⟨by rw [HR.out]; rfl, HBW.out⟩
        have f2 : decide (7 < x.to) = false := decide_eq_false (by omega)
        by_cases h3 : 0 < x.to
        case pos =>
          have hbad : shapedS x n = false := by rw [HSP.out]; simp [toBad, show ¬ x.to = 0 by omega]
          have HR := hid (HNO.out (by rw [hbad]; rfl))
          clear hbad
          have f3 : decide (0 < x.to) = true := decide_eq_true (by omega)
          go_wp2_with fail
          rw [← HWB.out]
          go_ret
          exact ⟨by rw [HR.out]; rfl, HBW.out⟩
        have f3 : decide (0 < x.to) = false := decide_eq_false (by omega)
        by_cases h4 : 0 < x.body.length
        case pos =>
          have hbad : shapedS x n = false := by rw [HSP.out]; rw [HLB.out]; simp [show ¬ x.body.length = 0 by omega]
          have HR := hid (HNO.out (by rw [hbad]; rfl))
          clear hbad
          have fh4 : decide ((0 : Int) < (x.body.length : Int)) = true := decide_eq_true (by omega)
          have fh4n : decide (0 < x.body.length) = true := decide_eq_true (by omega)
          go_wp2_with fail
          rw [← HWB.out]
          go_ret
          exact ⟨by rw [HR.out]; rfl, HBW.out⟩
        have fh4 : decide ((0 : Int) < (x.body.length : Int)) = false := decide_eq_false (by omega)
        have fh4n : decide (0 < x.body.length) = false := decide_eq_false (by omega)
        have Hh4 := hid h4
        by_cases h5 : 0 < x.els.length
        case pos =>
          have hbad : shapedS x n = false := by rw [HSP.out]; rw [HLE.out]; simp [show ¬ x.els.length = 0 by omega]
          have HR := hid (HNO.out (by rw [hbad]; rfl))
          clear hbad
          have fh5 : decide ((0 : Int) < (x.els.length : Int)) = true := decide_eq_true (by omega)
          have fh5n : decide (0 < x.els.length) = true := decide_eq_true (by omega)
          go_wp2_with fail
          rw [← HWB.out]
          go_ret
          exact ⟨by rw [HR.out]; rfl, HBW.out⟩
        have fh5 : decide ((0 : Int) < (x.els.length : Int)) = false := decide_eq_false (by omega)
        have fh5n : decide (0 < x.els.length) = false := decide_eq_false (by omega)
        have Hh5 := hid h5
        have HSQ : Hid (shapedS x n = (fitsS true x.a n && fitsS true x.b n)) := hid (by rw [HSP.out, HLB.out, HLE.out]; simp [toBad, show ¬ x.to < 0 from h1, show ¬ 8 ≤ x.to by omega, show x.to = 0 by omega, show x.body.length = 0 by omega, show x.els.length = 0 by omega])
        have HFA := hid (fun (W : World) (h : Below w.heap.size w W) => HMA.out W h)
        have HFB := hid (fun (W : World) (h : Below w.heap.size w W) => HMB.out W h)
        have HQA : Hid (fitsS true x.a n = mayS x.a n) := hid rfl
        have HQB : Hid (fitsS true x.b n = mayS x.b n) := hid rfl
        generalize mayS x.a n = qa at HFA HQA
        generalize mayS x.b n = qb at HFB HQB
        rw [HQA.out, HQB.out] at HSQ
        clear h1 h2 h3 h4 h5 HSP HSH HMA HMB HNA HNB HLB HLE
        go_wp2_with fail
        rw [← HWB.out]
        refine (HFA.out _ HBW.out).mono ?_
        rintro e' w1 ⟨rfl, hb1⟩
        have HBK := hid (HBK.out.below hb1)
        have HBW := hid (ext_trans HBW.out hb1)
        clear hb1
        have c5 := HBK.out.cell 5 (v := .int .u8 x.b.op) rfl
        have c6 := HBK.out.cell 6 (v := .int .i64 x.b.n) rfl
        have c7 := HBK.out.cell 7 (v := .slice pb x.b.args.length cb) rfl
        have c8 := HBK.out.cell 8 (v := .slice po x.body.length co) rfl
        have c9 := HBK.out.cell 9 (v := .slice pe x.els.length ce) rfl
        have cl1 := HBK.out.lt
        cases qa with
        | false =>
          have HR := hid (HNO.out (by rw [HSQ.out]; simp))
          go_wp2_with fail
          go_ret
          exact ⟨by rw [HR.out]; rfl, HBW.out⟩
        | true =>
        go_wp2_with fail
        refine (HFB.out _ HBW.out).mono ?_
        rintro e' w2 ⟨rfl, hb2⟩
        have HBK := hid (HBK.out.below hb2)
        have HBW := hid (ext_trans HBW.out hb2)
        clear hb2
        have c8 := HBK.out.cell 8 (v := .slice po x.body.length co) rfl
        have c9 := HBK.out.cell 9 (v := .slice pe x.els.length ce) rfl
        have cl2 := HBK.out.lt
        cases qb with
        | false =>
          have HR := hid (HNO.out (by rw [HSQ.out]; simp))
          go_wp2_with fail
          go_ret
          exact ⟨by rw [HR.out]; rfl, HBW.out⟩
        | true =>
        go_wp2_with fail
        refine (HIB.out _ HBW.out).mono ?_
        rintro e' w3 ⟨rfl, hb3⟩
        have HBK := hid (HBK.out.below hb3)
        have HBW := hid (ext_trans HBW.out hb3)
        clear hb3
        have c9 := HBK.out.cell 9 (v := .slice pe x.els.length ce) rfl
        have cl3 := HBK.out.lt
        cases qo with
        | false =>
          have HR := hid (HNO.out (by rw [HSQ.out]; simp))
          go_wp2_with fail
          go_ret
          exact ⟨by rw [HR.out]; rfl, HBW.out⟩
        | true =>
        go_wp2_with fail
        refine (HIE.out _ HBW.out).mono ?_
        rintro e' w4 ⟨rfl, hb4⟩
        have HBW := hid (ext_trans HBW.out hb4)
        clear hb4
        cases qe with
        | false =>
          have HR := hid (HNO.out (by rw [HSQ.out]; simp))
          go_wp2_with fail
          go_ret
          exact ⟨by rw [HR.out]; rfl, HBW.out⟩
        | true =>
        go_wp2_with fail
        go_roundw
        case rel => exact ⟨k + 1, HLT.out, by go_num, hid (by rw [HTK.out, HK.out, HSQ.out]; rfl), HBW⟩
        case measure => have := HLT.out; simp [intOf]; omega
      have kk3 : (kd == 3) = false := beq_eq_false_iff_ne.2 k3
      by_cases k4 : kd = 4
      case pos =>
        subst k4
        have HSP : Hid (shapedS x n = _) := hid (HSH.out ⟨true, false, true, false, true, true⟩ rfl)
        by_cases h1 : x.to < 0
        case pos =>
          have hbad : shapedS x n = false := by rw [HSP.out]; simp [toBad, h1]
          have HR := hid (HNO.out (by rw [hbad]; rfl))
          clear hbad
          have f1 : decide (x.to < 0) = true := decide_eq_true (by omega)
          go_wp2_with fail
          rw [← HWB.out]
          go_ret
          exact ⟨by rw [HR.out]; rfl, HBW.out⟩
        have f1 : decide (x.to < 0) = false := decide_eq_false (by omega)
        by_cases h2 : 7 < x.to
        case pos =>
          have hbad : shapedS x n = false := by rw [HSP.out]; simp [toBad, show 8 ≤ x.to by omega]
          have HR := hid (HNO.out (by rw [hbad]; rfl))
          clear hbad
          have f2 : decide (7 < x.to) = true := decide_eq_true (by omega)
          go_wp2_with fail
          rw [← HWB.out]
          go_ret
          exact ⟨by rw [HR.out]; rfl, HBW.out⟩
        have f2 : decide (7 < x.to) = false := decide_eq_false (by omega)
        by_cases h3 : 0 < x.to
        case pos =>
          have hbad : shapedS x n = false := by rw [HSP.out]; simp [toBad, show ¬ x.to = 0 by omega]
          have HR := hid (HNO.out (by rw [hbad]; rfl))
          clear hbad
          have f3 : decide (0 < x.to) = true := decide_eq_true (by omega)
          go_wp2_with fail
          rw [← HWB.out]
          go_ret
          exact ⟨by rw [HR.out]; rfl, HBW.out⟩
        have f3 : decide (0 < x.to) = false := decide_eq_false (by omega)
        have HSQ : Hid (shapedS x n = (fitsS true x.a n && fitsS false x.b n)) := hid (by rw [HSP.out]; simp [toBad, show ¬ x.to < 0 from h1, show ¬ 8 ≤ x.to by omega, show x.to = 0 by omega])
        have HFA := hid (fun (W : World) (h : Below w.heap.size w W) => HMA.out W h)
        have HFB := hid (fun (W : World) (h : Below w.heap.size w W) => HNB.out W h)
        have HQA : Hid (fitsS true x.a n = mayS x.a n) := hid rfl
        have HQB : Hid (fitsS false x.b n = noneS x.b) := hid rfl
        generalize mayS x.a n = qa at HFA HQA
        generalize noneS x.b = qb at HFB HQB
        rw [HQA.out, HQB.out] at HSQ
        clear h1 h2 h3 HSP HSH HMA HMB HNA HNB HLB HLE
        go_wp2_with fail
        rw [← HWB.out]
        refine (HFA.out _ HBW.out).mono ?_
        rintro e' w1 ⟨rfl, hb1⟩
        have HBK := hid (HBK.out.below hb1)
        have HBW := hid (ext_trans HBW.out hb1)
        clear hb1
        have c5 := HBK.out.cell 5 (v := .int .u8 x.b.op) rfl
        have c6 := HBK.out.cell 6 (v := .int .i64 x.b.n) rfl
        have c7 := HBK.out.cell 7 (v := .slice pb x.b.args.length cb) rfl
        have c8 := HBK.out.cell 8 (v := .slice po x.body.length co) rfl
        have c9 := HBK.out.cell 9 (v := .slice pe x.els.length ce) rfl
        have cl1 := HBK.out.lt
        cases qa with
        | false =>
          have HR := hid (HNO.out (by rw [HSQ.out]; simp))
          go_wp2_with fail
          go_ret
          exact ⟨by rw [HR.out]; rfl, HBW.out⟩
        | true =>
        go_wp2_with fail
        refine (HFB.out _ HBW.out).mono ?_
        rintro e' w2 ⟨rfl, hb2⟩
        have HBK := hid (HBK.out.below hb2)
        have HBW := hid (ext_trans HBW.out hb2)
        clear hb2
        have c8 := HBK.out.cell 8 (v := .slice po x.body.length co) rfl
        have c9 := HBK.out.cell 9 (v := .slice pe x.els.length ce) rfl
        have cl2 := HBK.out.lt
        cases qb with
        | false =>
          have HR := hid (HNO.out (by rw [HSQ.out]; simp))
          go_wp2_with fail
          go_ret
          exact ⟨by rw [HR.out]; rfl, HBW.out⟩
        | true =>
        go_wp2_with fail
        refine (HIB.out _ HBW.out).mono ?_
        rintro e' w3 ⟨rfl, hb3⟩
        have HBK := hid (HBK.out.below hb3)
        have HBW := hid (ext_trans HBW.out hb3)
        clear hb3
        have c9 := HBK.out.cell 9 (v := .slice pe x.els.length ce) rfl
        have cl3 := HBK.out.lt
        cases qo with
        | false =>
          have HR := hid (HNO.out (by rw [HSQ.out]; simp))
          go_wp2_with fail
          go_ret
          exact ⟨by rw [HR.out]; rfl, HBW.out⟩
        | true =>
        go_wp2_with fail
        refine (HIE.out _ HBW.out).mono ?_
        rintro e' w4 ⟨rfl, hb4⟩
        have HBW := hid (ext_trans HBW.out hb4)
        clear hb4
        cases qe with
        | false =>
          have HR := hid (HNO.out (by rw [HSQ.out]; simp))
          go_wp2_with fail
          go_ret
          exact ⟨by rw [HR.out]; rfl, HBW.out⟩
        | true =>
        go_wp2_with fail
        go_roundw
        case rel => exact ⟨k + 1, HLT.out, by go_num, hid (by rw [HTK.out, HK.out, HSQ.out]; rfl), HBW⟩
        case measure => have := HLT.out; simp [intOf]; omega
      have kk4 : (kd == 4) = false := beq_eq_false_iff_ne.2 k4
      by_cases k5 : kd = 5
      case pos =>
        subst k5
        have HSP : Hid (shapedS x n = _) := hid (HSH.out ⟨true, false, true, false, true, false⟩ rfl)
        by_cases h1 : x.to < 0
        case pos =>
          have hbad : shapedS x n = false := by rw [HSP.out]; simp [toBad, h1]
          have HR := hid (HNO.out (by rw [hbad]; rfl))
          clear hbad
          have f1 : decide (x.to < 0) = true := decide_eq_true (by omega)
          go_wp2_with fail
          rw [← HWB.out]
          go_ret
          exact ⟨by rw [HR.out]; rfl, HBW.out⟩
        have f1 : decide (x.to < 0) = false := decide_eq_false (by omega)
        by_cases h2 : 7 < x.to
        case pos =>
          have hbad : shapedS x n = false := by rw [HSP.out]; simp [toBad, show 8 ≤ x.to by omega]
          have HR := hid (HNO.out (by rw [hbad]; rfl))
          clear hbad
          have f2 : decide (7 < x.to) = true := decide_eq_true (by omega)
          go_wp2_with fail
          rw [← HWB.out]
          go_ret
          exact ⟨by rw [HR.out]; rfl, HBW.out⟩
        have f2 : decide (7 < x.to) = false := decide_eq_false (by omega)
        by_cases h3 : 0 < x.to
        case pos =>
          have hbad : shapedS x n = false := by rw [HSP.out]; simp [toBad, show ¬ x.to = 0 by omega]
          have HR := hid (HNO.out (by rw [hbad]; rfl))
          clear hbad
          have f3 : decide (0 < x.to) = true := decide_eq_true (by omega)
          go_wp2_with fail
          rw [← HWB.out]
          go_ret
          exact ⟨by rw [HR.out]; rfl, HBW.out⟩
        have f3 : decide (0 < x.to) = false := decide_eq_false (by omega)
        by_cases h5 : 0 < x.els.length
        case pos =>
          have hbad : shapedS x n = false := by rw [HSP.out]; rw [HLE.out]; simp [show ¬ x.els.length = 0 by omega]
          have HR := hid (HNO.out (by rw [hbad]; rfl))
          clear hbad
          have fh5 : decide ((0 : Int) < (x.els.length : Int)) = true := decide_eq_true (by omega)
          have fh5n : decide (0 < x.els.length) = true := decide_eq_true (by omega)
          go_wp2_with fail
          rw [← HWB.out]
          go_ret
          exact ⟨by rw [HR.out]; rfl, HBW.out⟩
        have fh5 : decide ((0 : Int) < (x.els.length : Int)) = false := decide_eq_false (by omega)
        have fh5n : decide (0 < x.els.length) = false := decide_eq_false (by omega)
        have Hh5 := hid h5
        have HSQ : Hid (shapedS x n = (fitsS true x.a n && fitsS false x.b n)) := hid (by rw [HSP.out, HLE.out]; simp [toBad, show ¬ x.to < 0 from h1, show ¬ 8 ≤ x.to by omega, show x.to = 0 by omega, show x.els.length = 0 by omega])
        have HFA := hid (fun (W : World) (h : Below w.heap.size w W) => HMA.out W h)
        have HFB := hid (fun (W : World) (h : Below w.heap.size w W) => HNB.out W h)
        have HQA : Hid (fitsS true x.a n = mayS x.a n) := hid rfl
        have HQB : Hid (fitsS false x.b n = noneS x.b) := hid rfl
        generalize mayS x.a n = qa at HFA HQA
        generalize noneS x.b = qb at HFB HQB
        rw [HQA.out, HQB.out] at HSQ
        clear h1 h2 h3 h5 HSP HSH HMA HMB HNA HNB HLB HLE
        go_wp2_with fail
        rw [← HWB.out]
        refine (HFA.out _ HBW.out).mono ?_
        rintro e' w1 ⟨rfl, hb1⟩
        have HBK := hid (HBK.out.below hb1)
        have HBW := hid (ext_trans HBW.out hb1)
        clear hb1
        have c5 := HBK.out.cell 5 (v := .int .u8 x.b.op) rfl
        have c6 := HBK.out.cell 6 (v := .int .i64 x.b.n) rfl
        have c7 := HBK.out.cell 7 (v := .slice pb x.b.args.length cb) rfl
        have c8 := HBK.out.cell 8 (v := .slice po x.body.length co) rfl
        have c9 := HBK.out.cell 9 (v := .slice pe x.els.length ce) rfl
        have cl1 := HBK.out.lt
        cases qa with
        | false =>
          have HR := hid (HNO.out (by rw [HSQ.out]; simp))
          go_wp2_with fail
          go_ret
          exact ⟨by rw [HR.out]; rfl, HBW.out⟩
        | true =>
        go_wp2_with fail
        refine (HFB.out _ HBW.out).mono ?_
        rintro e' w2 ⟨rfl, hb2⟩
        have HBK := hid (HBK.out.below hb2)
        have HBW := hid (ext_trans HBW.out hb2)
        clear hb2
        have c8 := HBK.out.cell 8 (v := .slice po x.body.length co) rfl
        have c9 := HBK.out.cell 9 (v := .slice pe x.els.length ce) rfl
        have cl2 := HBK.out.lt
        cases qb with
        | false =>
          have HR := hid (HNO.out (by rw [HSQ.out]; simp))
          go_wp2_with fail
          go_ret
          exact ⟨by rw [HR.out]; rfl, HBW.out⟩
        | true =>
        go_wp2_with fail
        refine (HIB.out _ HBW.out).mono ?_
        rintro e' w3 ⟨rfl, hb3⟩
        have HBK := hid (HBK.out.below hb3)
        have HBW := hid (ext_trans HBW.out hb3)
        clear hb3
        have c9 := HBK.out.cell 9 (v := .slice pe x.els.length ce) rfl
        have cl3 := HBK.out.lt
        cases qo with
        | false =>
          have HR := hid (HNO.out (by rw [HSQ.out]; simp))
          go_wp2_with fail
          go_ret
          exact ⟨by rw [HR.out]; rfl, HBW.out⟩
        | true =>
        go_wp2_with fail
        refine (HIE.out _ HBW.out).mono ?_
        rintro e' w4 ⟨rfl, hb4⟩
        have HBW := hid (ext_trans HBW.out hb4)
        clear hb4
        cases qe with
        | false =>
          have HR := hid (HNO.out (by rw [HSQ.out]; simp))
          go_wp2_with fail
          go_ret
          exact ⟨by rw [HR.out]; rfl, HBW.out⟩
        | true =>
        go_wp2_with fail
        go_roundw
        case rel => exact ⟨k + 1, HLT.out, by go_num, hid (by rw [HTK.out, HK.out, HSQ.out]; rfl), HBW⟩
        case measure => have := HLT.out; simp [intOf]; omega
      have kk5 : (kd == 5) = false := beq_eq_false_iff_ne.2 k5
      by_cases k6 : kd = 6
      case pos =>
        subst k6
        have HSP : Hid (shapedS x n = _) := hid (HSH.out ⟨true, false, false, false, false, false⟩ rfl)
        by_cases h1 : x.to < 0
        case pos =>
          have hbad : shapedS x n = false := by rw [HSP.out]; simp [toBad, h1]
          have HR := hid (HNO.out (by rw [hbad]; rfl))
          clear hbad
          have f1 : decide (x.to < 0) = true := decide_eq_true (by omega)
          go_wp2_with fail
          rw [← HWB.out]
          go_ret
          exact ⟨by rw [HR.out]; rfl, HBW.out⟩
        have f1 : decide (x.to < 0) = false := decide_eq_false (by omega)
        by_cases h2 : 7 < x.to
        case pos =>
          have hbad : shapedS x n = false := by rw [HSP.out]; simp [toBad, show 8 ≤ x.to by omega]
          have HR := hid (HNO.out (by rw [hbad]; rfl))
          clear hbad
          have f2 : decide (7 < x.to) = true := decide_eq_true (by omega)
          go_wp2_with fail
          rw [← HWB.out]
          go_ret
          exact ⟨by rw [HR.out]; rfl, HBW.out⟩
        have f2 : decide (7 < x.to) = false := decide_eq_false (by omega)
        by_cases h3 : 0 < x.to
        case pos =>
          have hbad : shapedS x n = false := by rw [HSP.out]; simp [toBad, show ¬ x.to = 0 by omega]
          have HR := hid (HNO.out (by rw [hbad]; rfl))
          clear hbad
          have f3 : decide (0 < x.to) = true := decide_eq_true (by omega)
          go_wp2_with fail
          rw [← HWB.out]
          go_ret
          exact ⟨by rw [HR.out]; rfl, HBW.out⟩
        have f3 : decide (0 < x.to) = false := decide_eq_false (by omega)
        by_cases h4 : 0 < x.body.length
        case pos =>
          have hbad : shapedS x n = false := by rw [HSP.out]; rw [HLB.out]; simp [show ¬ x.body.length = 0 by omega]
          have HR := hid (HNO.out (by rw [hbad]; rfl))
          clear hbad
          have fh4 : decide ((0 : Int) < (x.body.length : Int)) = true := decide_eq_true (by omega)
          have fh4n : decide (0 < x.body.length) = true := decide_eq_true (by omega)
          go_wp2_with fail
          rw [← HWB.out]
          go_ret
          exact ⟨by rw [HR.out]; rfl, HBW.out⟩
        have fh4 : decide ((0 : Int) < (x.body.length : Int)) = false := decide_eq_false (by omega)
        have fh4n : decide (0 < x.body.length) = false := decide_eq_false (by omega)
        have Hh4 := hid h4
        by_cases h5 : 0 < x.els.length
        case pos =>
          have hbad : shapedS x n = false := by rw [HSP.out]; rw [HLE.out]; simp [show ¬ x.els.length = 0 by omega]
          have HR := hid (HNO.out (by rw [hbad]; rfl))
          clear hbad
          have fh5 : decide ((0 : Int) < (x.els.length : Int)) = true := decide_eq_true (by omega)
          have fh5n : decide (0 < x.els.length) = true := decide_eq_true (by omega)
          go_wp2_with fail
          rw [← HWB.out]
          go_ret
          exact ⟨by rw [HR.out]; rfl, HBW.out⟩
        have fh5 : decide ((0 : Int) < (x.els.length : Int)) = false := decide_eq_false (by omega)
        have fh5n : decide (0 < x.els.length) = false := decide_eq_false (by omega)
        have Hh5 := hid h5
        have HSQ : Hid (shapedS x n = (fitsS false x.a n && fitsS false x.b n)) := hid (by rw [HSP.out, HLB.out, HLE.out]; simp [toBad, show ¬ x.to < 0 from h1, show ¬ 8 ≤ x.to by omega, show x.to = 0 by omega, show x.body.length = 0 by omega, show x.els.length = 0 by omega])
        have HFA := hid (fun (W : World) (h : Below w.heap.size w W) => HNA.out W h)
        have HFB := hid (fun (W : World) (h : Below w.heap.size w W) => HNB.out W h)
        have HQA : Hid (fitsS false x.a n = noneS x.a) := hid rfl
        have HQB : Hid (fitsS false x.b n = noneS x.b) := hid rfl
        generalize noneS x.a = qa at HFA HQA
        generalize noneS x.b = qb at HFB HQB
        rw [HQA.out, HQB.out] at HSQ
        clear h1 h2 h3 h4 h5 HSP HSH HMA HMB HNA HNB HLB HLE
        go_wp2_with fail
        rw [← HWB.out]
        refine (HFA.out _ HBW.out).mono ?_
        rintro e' w1 ⟨rfl, hb1⟩
        have HBK := hid (HBK.out.below hb1)
        have HBW := hid (ext_trans HBW.out hb1)
        clear hb1
        have c5 := HBK.out.cell 5 (v := .int .u8 x.b.op) rfl
        have c6 := HBK.out.cell 6 (v := .int .i64 x.b.n) rfl
        have c7 := HBK.out.cell 7 (v := .slice pb x.b.args.length cb) rfl
        have c8 := HBK.out.cell 8 (v := .slice po x.body.length co) rfl
        have c9 := HBK.out.cell 9 (v := .slice pe x.els.length ce) rfl
        have cl1 := HBK.out.lt
        cases qa with
        | false =>
          have HR := hid (HNO.out (by rw [HSQ.out]; simp))
          go_wp2_with fail
          go_ret
          exact ⟨by rw [HR.out]; rfl, HBW.out⟩
        | true =>
        go_wp2_with fail
        refine (HFB.out _ HBW.out).mono ?_
        rintro e' w2 ⟨rfl, hb2⟩
        have HBK := hid (HBK.out.below hb2)
        have HBW := hid (ext_trans HBW.out hb2)
        clear hb2
        have c8 := HBK.out.cell 8 (v := .slice po x.body.length co) rfl
        have c9 := HBK.out.cell 9 (v := .slice pe x.els.length ce) rfl
        have cl2 := HBK.out.lt
        cases qb with
        | false =>
          have HR := hid (HNO.out (by rw [HSQ.out]; simp))
          go_wp2_with fail
          go_ret
          exact ⟨by rw [HR.out]; rfl, HBW.out⟩
        | true =>
        go_wp2_with fail
        refine (HIB.out _ HBW.out).mono ?_
        rintro e' w3 ⟨rfl, hb3⟩
        have HBK := hid (HBK.out.below hb3)
        have HBW := hid (ext_trans HBW.out hb3)
        clear hb3
        have c9 := HBK.out.cell 9 (v := .slice pe x.els.length ce) rfl
        have cl3 := HBK.out.lt
        cases qo with
        | false =>
          have HR := hid (HNO.out (by rw [HSQ.out]; simp))
          go_wp2_with fail
          go_ret
          exact ⟨by rw [HR.out]; rfl, HBW.out⟩
        | true =>
        go_wp2_with fail
        refine (HIE.out _ HBW.out).mono ?_
        rintro e' w4 ⟨rfl, hb4⟩
        have HBW := hid (ext_trans HBW.out hb4)
        clear hb4
        cases qe with
        | false =>
          have HR := hid (HNO.out (by rw [HSQ.out]; simp))
          go_wp2_with fail
          go_ret
          exact ⟨by rw [HR.out]; rfl, HBW.out⟩
        | true =>
        go_wp2_with fail
        go_roundw
        case rel => exact ⟨k + 1, HLT.out, by go_num, hid (by rw [HTK.out, HK.out, HSQ.out]; rfl), HBW⟩
        case measure => have := HLT.out; simp [intOf]; omega
      have kk6 : (kd == 6) = false := beq_eq_false_iff_ne.2 k6
      by_cases k7 : kd = 7
      case pos =>
        subst k7
        have HSP : Hid (shapedS x n = _) := hid (HSH.out ⟨true, false, false, false, true, true⟩ rfl)
        by_cases h1 : x.to < 0
        case pos =>
          have hbad : shapedS x n = false := by rw [HSP.out]; simp [toBad, h1]
          have HR := hid (HNO.out (by rw [hbad]; rfl))
          clear hbad
          have f1 : decide (x.to < 0) = true := decide_eq_true (by omega)
          go_wp2_with fail
          rw [← HWB.out]
          go_ret
          exact ⟨by rw [HR.out]; rfl, HBW.out⟩
        have f1 : decide (x.to < 0) = false := decide_eq_false (by omega)
        by_cases h2 : 7 < x.to
        case pos =>
          have hbad : shapedS x n = false := by rw [HSP.out]; simp [toBad, show 8 ≤ x.to by omega]
          have HR := hid (HNO.out (by rw [hbad]; rfl))
          clear hbad
          have f2 : decide (7 < x.to) = true := decide_eq_true (by omega)
          go_wp2_with fail
          rw [← HWB.out]
          go_ret
          exact ⟨by rw [HR.out]; rfl, HBW.out⟩
        have f2 : decide (7 < x.to) = false := decide_eq_false (by omega)
        by_cases h3 : 0 < x.to
        case pos =>
          have hbad : shapedS x n = false := by rw [HSP.out]; simp [toBad, show ¬ x.to = 0 by omega]
          have HR := hid (HNO.out (by rw [hbad]; rfl))
          clear hbad
          have f3 : decide (0 < x.to) = true := decide_eq_true (by omega)
          go_wp2_with fail
          rw [← HWB.out]
          go_ret
          exact ⟨by rw [HR.out]; rfl, HBW.out⟩
        have f3 : decide (0 < x.to) = false := decide_eq_false (by omega)
        have HSQ : Hid (shapedS x n = (fitsS false x.a n && fitsS false x.b n)) := hid (by rw [HSP.out]; simp [toBad, show ¬ x.to < 0 from h1, show ¬ 8 ≤ x.to by omega, show x.to = 0 by omega])
        have HFA := hid (fun (W : World) (h : Below w.heap.size w W) => HNA.out W h)
        have HFB := hid (fun (W : World) (h : Below w.heap.size w W) => HNB.out W h)
        have HQA : Hid (fitsS false x.a n = noneS x.a) := hid rfl
        have HQB : Hid (fitsS false x.b n = noneS x.b) := hid rfl
        generalize noneS x.a = qa at HFA HQA
        generalize noneS x.b = qb at HFB HQB
        rw [HQA.out, HQB.out] at HSQ
        clear h1 h2 h3 HSP HSH HMA HMB HNA HNB HLB HLE
        go_wp2_with fail
        rw [← HWB.out]
        refine (HFA.out _ HBW.out).mono ?_
        rintro e' w1 ⟨rfl, hb1⟩
        have HBK := hid (HBK.out.below hb1)
        have HBW := hid (ext_trans HBW.out hb1)
        clear hb1
        have c5 := HBK.out.cell 5 (v := .int .u8 x.b.op) rfl
        have c6 := HBK.out.cell 6 (v := .int .i64 x.b.n) rfl
        have c7 := HBK.out.cell 7 (v := .slice pb x.b.args.length cb) rfl
        have c8 := HBK.out.cell 8 (v := .slice po x.body.length co) rfl
        have c9 := HBK.out.cell 9 (v := .slice pe x.els.length ce) rfl
        have cl1 := HBK.out.lt
        cases qa with
        | false =>
          have HR := hid (HNO.out (by rw [HSQ.out]; simp))
          go_wp2_with fail
          go_ret
          exact ⟨by rw [HR.out]; rfl, HBW.out⟩
        | true =>
        go_wp2_with fail
        refine (HFB.out _ HBW.out).mono ?_
        rintro e' w2 ⟨rfl, hb2⟩
        have HBK := hid (HBK.out.below hb2)
        have HBW := hid (ext_trans HBW.out hb2)
        clear hb2
        have c8 := HBK.out.cell 8 (v := .slice po x.body.length co) rfl
        have c9 := HBK.out.cell 9 (v := .slice pe x.els.length ce) rfl
        have cl2 := HBK.out.lt
        cases qb with
        | false =>
          have HR := hid (HNO.out (by rw [HSQ.out]; simp))
          go_wp2_with fail
          go_ret
          exact ⟨by rw [HR.out]; rfl, HBW.out⟩
        | true =>
        go_wp2_with fail
        refine (HIB.out _ HBW.out).mono ?_
        rintro e' w3 ⟨rfl, hb3⟩
        have HBK := hid (HBK.out.below hb3)
        have HBW := hid (ext_trans HBW.out hb3)
        clear hb3
        have c9 := HBK.out.cell 9 (v := .slice pe x.els.length ce) rfl
        have cl3 := HBK.out.lt
        cases qo with
        | false =>
          have HR := hid (HNO.out (by rw [HSQ.out]; simp))
          go_wp2_with fail
          go_ret
          exact ⟨by rw [HR.out]; rfl, HBW.out⟩
        | true =>
        go_wp2_with fail
        refine (HIE.out _ HBW.out).mono ?_
        rintro e' w4 ⟨rfl, hb4⟩
        have HBW := hid (ext_trans HBW.out hb4)
        clear hb4
        cases qe with
        | false =>
          have HR := hid (HNO.out (by rw [HSQ.out]; simp))
          go_wp2_with fail
          go_ret
          exact ⟨by rw [HR.out]; rfl, HBW.out⟩
        | true =>
        go_wp2_with fail
        go_roundw
        case rel => exact ⟨k + 1, HLT.out, by go_num, hid (by rw [HTK.out, HK.out, HSQ.out]; rfl), HBW⟩
        case measure => have := HLT.out; simp [intOf]; omega
      have kk7 : (kd == 7) = false := beq_eq_false_iff_ne.2 k7
      by_cases k8 : kd = 8
      case pos =>
        subst k8
        have HSP : Hid (shapedS x n = _) := hid (HSH.out ⟨true, false, true, false, false, false⟩ rfl)
        by_cases h1 : x.to < 0
        case pos =>
          have hbad : shapedS x n = false := by rw [HSP.out]; simp [toBad, h1]
          have HR := hid (HNO.out (by rw [hbad]; rfl))
          clear hbad
          have f1 : decide (x.to < 0) = true := decide_eq_true (by omega)
          go_wp2_with fail
          rw [← HWB.out]
          go_ret
          exact ⟨by rw [HR.out]; rfl, HBW.out⟩
        have f1 : decide (x.to < 0) = false := decide_eq_false (by omega)
        by_cases h2 : 7 < x.to
        case pos =>
          have hbad : shapedS x n = false := by rw [HSP.out]; simp [toBad, show 8 ≤ x.to by omega]
          have HR := hid (HNO.out (by rw [hbad]; rfl))
          clear hbad
          have f2 : decide (7 < x.to) = true := decide_eq_true (by omega)
          go_wp2_with fail
          rw [← HWB.out]
          go_ret
          exact ⟨by rw [HR.out]; rfl, HBW.out⟩
        have f2 : decide (7 < x.to) = false := decide_eq_false (by omega)
        by_cases h3 : 0 < x.to
        case pos =>
          have hbad : shapedS x n = false := by rw [HSP.out]; simp [toBad, show ¬ x.to = 0 by omega]
          have HR := hid (HNO.out (by rw [hbad]; rfl))
          clear hbad
          have f3 : decide (0 < x.to) = true := decide_eq_true (by omega)
          go_wp2_with fail
          rw [← HWB.out]
          go_ret
          exact ⟨by rw [HR.out]; rfl, HBW.out⟩
        have f3 : decide (0 < x.to) = false := decide_eq_false (by omega)
        by_cases h4 : 0 < x.body.length
        case pos =>
          have hbad : shapedS x n = false := by rw [HSP.out]; rw [HLB.out]; simp [show ¬ x.body.length = 0 by omega]
          have HR := hid (HNO.out (by rw [hbad]; rfl))
          clear hbad
          have fh4 : decide ((0 : Int) < (x.body.length : Int)) = true := decide_eq_true (by omega)
          have fh4n : decide (0 < x.body.length) = true := decide_eq_true (by omega)
          go_wp2_with fail
          rw [← HWB.out]
          go_ret
          exact ⟨by rw [HR.out]; rfl, HBW.out⟩
        have fh4 : decide ((0 : Int) < (x.body.length : Int)) = false := decide_eq_false (by omega)
        have fh4n : decide (0 < x.body.length) = false := decide_eq_false (by omega)
        have Hh4 := hid h4
        by_cases h5 : 0 < x.els.length
        case pos =>
          have hbad : shapedS x n = false := by rw [HSP.out]; rw [HLE.out]; simp [show ¬ x.els.length = 0 by omega]
          have HR := hid (HNO.out (by rw [hbad]; rfl))
          clear hbad
          have fh5 : decide ((0 : Int) < (x.els.length : Int)) = true := decide_eq_true (by omega)
          have fh5n : decide (0 < x.els.length) = true := decide_eq_true (by omega)
          go_wp2_with fail
          rw [← HWB.out]
          go_ret
          exact ⟨by rw [HR.out]; rfl, HBW.out⟩
        have fh5 : decide ((0 : Int) < (x.els.length : Int)) = false := decide_eq_false (by omega)
        have fh5n : decide (0 < x.els.length) = false := decide_eq_false (by omega)
        have Hh5 := hid h5
        have HSQ : Hid (shapedS x n = (fitsS true x.a n && fitsS false x.b n)) := hid (by rw [HSP.out, HLB.out, HLE.out]; simp [toBad, show ¬ x.to < 0 from h1, show ¬ 8 ≤ x.to by omega, show x.to = 0 by omega, show x.body.length = 0 by omega, show x.els.length = 0 by omega])
        have HFA := hid (fun (W : World) (h : Below w.heap.size w W) => HMA.out W h)
        have HFB := hid (fun (W : World) (h : Below w.heap.size w W) => HNB.out W h)
        have HQA : Hid (fitsS true x.a n = mayS x.a n) := hid rfl
        have HQB : Hid (fitsS false x.b n = noneS x.b) := hid rfl
        generalize mayS x.a n = qa at HFA HQA
        generalize noneS x.b = qb at HFB HQB
        rw [HQA.out, HQB.out] at HSQ
        clear h1 h2 h3 h4 h5 HSP HSH HMA HMB HNA HNB HLB HLE
        go_wp2_with fail
        rw [← HWB.out]
        refine (HFA.out _ HBW.out).mono ?_
        rintro e' w1 ⟨rfl, hb1⟩
        have HBK := hid (HBK.out.below hb1)
        have HBW := hid (ext_trans HBW.out hb1)
        clear hb1
        have c5 := HBK.out.cell 5 (v := .int .u8 x.b.op) rfl
        have c6 := HBK.out.cell 6 (v := .int .i64 x.b.n) rfl
        have c7 := HBK.out.cell 7 (v := .slice pb x.b.args.length cb) rfl
        have c8 := HBK.out.cell 8 (v := .slice po x.body.length co) rfl
        have c9 := HBK.out.cell 9 (v := .slice pe x.els.length ce) rfl
        have cl1 := HBK.out.lt
        cases qa with
        | false =>
          have HR := hid (HNO.out (by rw [HSQ.out]; simp))
          go_wp2_with fail
          go_ret
          exact ⟨by rw [HR.out]; rfl, HBW.out⟩
        | true =>
        go_wp2_with fail
        refine (HFB.out _ HBW.out).mono ?_
        rintro e' w2 ⟨rfl, hb2⟩
        have HBK := hid (HBK.out.below hb2)
        have HBW := hid (ext_trans HBW.out hb2)
        clear hb2
        have c8 := HBK.out.cell 8 (v := .slice po x.body.length co) rfl
        have c9 := HBK.out.cell 9 (v := .slice pe x.els.length ce) rfl
        have cl2 := HBK.out.lt
        cases qb with
        | false =>
          have HR := hid (HNO.out (by rw [HSQ.out]; simp))
          go_wp2_with fail
          go_ret
          exact ⟨by rw [HR.out]; rfl, HBW.out⟩
        | true =>
        go_wp2_with fail
        refine (HIB.out _ HBW.out).mono ?_
        rintro e' w3 ⟨rfl, hb3⟩
        have HBK := hid (HBK.out.below hb3)
        have HBW := hid (ext_trans HBW.out hb3)
        clear hb3
        have c9 := HBK.out.cell 9 (v := .slice pe x.els.length ce) rfl
        have cl3 := HBK.out.lt
        cases qo with
        | false =>
          have HR := hid (HNO.out (by rw [HSQ.out]; simp))
          go_wp2_with fail
          go_ret
          exact ⟨by rw [HR.out]; rfl, HBW.out⟩
        | true =>
        go_wp2_with fail
        refine (HIE.out _ HBW.out).mono ?_
        rintro e' w4 ⟨rfl, hb4⟩
        have HBW := hid (ext_trans HBW.out hb4)
        clear hb4
        cases qe with
        | false =>
          have HR := hid (HNO.out (by rw [HSQ.out]; simp))
          go_wp2_with fail
          go_ret
          exact ⟨by rw [HR.out]; rfl, HBW.out⟩
        | true =>
        go_wp2_with fail
        go_roundw
        case rel => exact ⟨k + 1, HLT.out, by go_num, hid (by rw [HTK.out, HK.out, HSQ.out]; rfl), HBW⟩
        case measure => have := HLT.out; simp [intOf]; omega
      have kk8 : (kd == 8) = false := beq_eq_false_iff_ne.2 k8
      have hbad : shapedS x n = false := by
        rw [HSH.out ⟨false, false, false, false, false, false⟩ (by unfold asksS; simp [k1, k2, k3, k4, k5, k6, k7, k8])]; simp
      have HR := hid (HNO.out (by rw [hbad]; rfl))
      clear hbad
      go_wp2_with fail
      rw [← HWB.out]
      go_ret
      exact ⟨by rw [HR.out]; rfl, HBW.out⟩
    · obtain rfl : k = l.length := by omega
      have j1 : decide ((l.length : Int) < (l.length : Int)) = false := by rw [decide_eq_false_iff_not]; omega
      have j1n : decide (l.length < l.length) = false := by simp
      have HR : Hid (shT l n = true) := hid (by have := HK.out; rwa [List.take_length] at this)
      go_wp2_with fail
      go_ret
      exact ⟨by rw [HR.out]; rfl, HB.out⟩
theorem mayT_is (l : List St) (n : Int) : mayT l n = (decide (0 ≤ n) && (decide (n ≤ 5) && (decide (sizeT l ≤ 40) && (decide (nodesL (flatT l) ≤ 300) && (decide (depthT 0 l + 1 ≤ 6) && (decide (costT 0 l ≤ 2000) && shT l n)))))) := by
  unfold mayT mayBad shT
  generalize (flatT l).all (fun s => shapedS s n) = q
  generalize sizeT l = z
  generalize nodesL (flatT l) = y
  generalize depthT 0 l = d
  generalize costT 0 l = c
  have e1 : (decide (n < 0)) = !decide (0 ≤ n) := by rw [← decide_not]; congr 1; apply propext; omega
  have e2 : (decide (6 ≤ n)) = !decide (n ≤ 5) := by rw [← decide_not]; congr 1; apply propext; omega
  have e3 : (decide (6 < d + 1)) = !decide (d + 1 ≤ 6) := by rw [← decide_not]; congr 1; apply propext; omega
  have e4 : (decide (2000 < c)) = !decide (c ≤ 2000) := by rw [← decide_not]; congr 1; apply propext; omega
  rw [e1, e2, e3, e4]
  generalize decide (0 ≤ n) = a1
  generalize decide (n ≤ 5) = a2
  generalize decide (z ≤ 40) = a3
  generalize decide (y ≤ 300) = a4
  generalize decide (d + 1 ≤ 6) = a5
  generalize decide (c ≤ 2000) = a6
  revert a1 a2 a3 a4 a5 a6 q
  decide
set_option maxRecDepth 100000 in
set_option maxHeartbeats 4000000 in
theorem rtmay_any (l : List St) (n : Int) (w : World) (v : Value) (hr : RdTx w l v) (hok : okTx l) :
    Calls Try.prog 36 #[v, .int .i64 n] w fun e' w' => e' = .returned (.bool (mayT l n)) ∧ Below w.heap.size w w' := by
  have hd0 : depthT 0 l ≤ 1000000 := by have := depthS_depthT_le.2 l 0; have := hok.1; omega
  have HC := hid (fun (W : World) (h : Below w.heap.size w W) => rtcount_any (sizeT l + 1) l W v (Nat.lt_succ_self _) hok.1 hok.2 (hr.below h))
  have HD := hid (fun (W : World) (h : Below w.heap.size w W) => rdepth_any (sizeT l + 1) l W v (Nat.lt_succ_self _) (hr.below h) hd0)
  have HK := hid (fun (W : World) (h : Below w.heap.size w W) => rcostT_any (sizeT l + 1) l W v (Nat.lt_succ_self _) (hr.below h))
  have HH := hid (fun (W : World) (h : Below w.heap.size w W) => rshaped_any (sizeT l + 1) l n W v (Nat.lt_succ_self _) (hr.below h))
  have HM := hid (mayT_is l n)
  have hz : sizeT l ≤ 3000 := hok.1
  have hy : nodesL (flatT l) ≤ 18000000 := by have := nodes_le (flatT l) hok.2; rw [flatT_len] at this; omega
  have hc : costT 0 l ≤ 2001 := costT_le l 0 (by omega)
  obtain ⟨p, cap, rfl, -, -⟩ := hr
  clear hok
  generalize mayT l n = q at *
  generalize sizeT l = z at *
  generalize nodesL (flatT l) = y at *
  generalize depthT 0 l = d at *
  generalize costT 0 l = c at *
  generalize shT l n = sh at *
  by_cases k0 : 0 ≤ n
  case neg =>
    obtain rfl : q = false := by rw [HM.out]; simp [show ¬ (0 ≤ n) from k0]
    have f0 : decide (0 ≤ n) = false := decide_eq_false (by omega)
    clear HM k0
    go_enter Try.func36, Try.ntmps36
    go_wp2_with fail
    refine (HC.out _ (ext_refl _)).mono ?_
    rintro e' w1 ⟨rfl, hb⟩
    have HB := hid hb
    clear hb
    go_wp2_with fail
    go_ret
    exact ⟨rfl, HB.out⟩
  by_cases k1 : n ≤ 5
  case neg =>
    obtain rfl : q = false := by rw [HM.out]; simp [show ¬ (n ≤ 5) from k1]
    have f0 : decide (0 ≤ n) = true := decide_eq_true (by omega)
    have f1 : decide (n ≤ 5) = false := decide_eq_false (by omega)
    clear HM k0 k1
    go_enter Try.func36, Try.ntmps36
    go_wp2_with fail
    refine (HC.out _ (ext_refl _)).mono ?_
    rintro e' w1 ⟨rfl, hb⟩
    have HB := hid hb
    clear hb
    go_wp2_with fail
    go_ret
    exact ⟨rfl, HB.out⟩
  by_cases k2 : z ≤ 40
  case neg =>
    obtain rfl : q = false := by rw [HM.out]; simp [show ¬ (z ≤ 40) from k2]
    have f0 : decide (0 ≤ n) = true := decide_eq_true (by omega)
    have f1 : decide (n ≤ 5) = true := decide_eq_true (by omega)
    have f2 : decide (z ≤ 40) = false := decide_eq_false (by omega)
    have g2 : decide ((z : Int) ≤ 40) = false := decide_eq_false (by omega)
    clear HM k0 k1 k2
    go_enter Try.func36, Try.ntmps36
    go_wp2_with fail
    refine (HC.out _ (ext_refl _)).mono ?_
    rintro e' w1 ⟨rfl, hb⟩
    have HB := hid hb
    clear hb
    go_wp2_with fail
    go_ret
    exact ⟨rfl, HB.out⟩
  by_cases k3 : y ≤ 300
  case neg =>
    obtain rfl : q = false := by rw [HM.out]; simp [show ¬ (y ≤ 300) from k3]
    have f0 : decide (0 ≤ n) = true := decide_eq_true (by omega)
    have f1 : decide (n ≤ 5) = true := decide_eq_true (by omega)
    have f2 : decide (z ≤ 40) = true := decide_eq_true (by omega)
    have g2 : decide ((z : Int) ≤ 40) = true := decide_eq_true (by omega)
    have f3 : decide (y ≤ 300) = false := decide_eq_false (by omega)
    have g3 : decide ((y : Int) ≤ 300) = false := decide_eq_false (by omega)
    clear HM k0 k1 k2 k3
    go_enter Try.func36, Try.ntmps36
    go_wp2_with fail
    refine (HC.out _ (ext_refl _)).mono ?_
    rintro e' w1 ⟨rfl, hb⟩
    have HB := hid hb
    clear hb
    go_wp2_with fail
    go_ret
    exact ⟨rfl, HB.out⟩
  by_cases k4 : d + 1 ≤ 6
  case neg =>
    obtain rfl : q = false := by rw [HM.out]; simp [show ¬ (d + 1 ≤ 6) from k4]
    have f0 : decide (0 ≤ n) = true := decide_eq_true (by omega)
    have f1 : decide (n ≤ 5) = true := decide_eq_true (by omega)
    have f2 : decide (z ≤ 40) = true := decide_eq_true (by omega)
    have g2 : decide ((z : Int) ≤ 40) = true := decide_eq_true (by omega)
    have f3 : decide (y ≤ 300) = true := decide_eq_true (by omega)
    have g3 : decide ((y : Int) ≤ 300) = true := decide_eq_true (by omega)
    have f4 : decide (d + 1 ≤ 6) = false := decide_eq_false (by omega)
    have g4 : decide (((d + 1 : Nat) : Int) ≤ 6) = false := decide_eq_false (by omega)
    have i4 : decide ((d : Int) + 1 ≤ 6) = false := decide_eq_false (by omega)
    clear HM k0 k1 k2 k3 k4
    go_enter Try.func36, Try.ntmps36
    go_wp2_with fail
    refine (HC.out _ (ext_refl _)).mono ?_
    rintro e' w1 ⟨rfl, hb⟩
    have HB := hid hb
    clear hb
    go_wp2_with fail
    refine (HD.out _ HB.out).mono ?_
    rintro e' w2 ⟨rfl, hb⟩
    have HB := hid (ext_trans HB.out hb)
    clear hb
    go_wp2_with fail
    go_ret
    exact ⟨rfl, HB.out⟩
  by_cases k5 : c ≤ 2000
  case neg =>
    obtain rfl : q = false := by rw [HM.out]; simp [show ¬ (c ≤ 2000) from k5]
    have f0 : decide (0 ≤ n) = true := decide_eq_true (by omega)
    have f1 : decide (n ≤ 5) = true := decide_eq_true (by omega)
    have f2 : decide (z ≤ 40) = true := decide_eq_true (by omega)
    have g2 : decide ((z : Int) ≤ 40) = true := decide_eq_true (by omega)
    have f3 : decide (y ≤ 300) = true := decide_eq_true (by omega)
    have g3 : decide ((y : Int) ≤ 300) = true := decide_eq_true (by omega)
    have f4 : decide (d + 1 ≤ 6) = true := decide_eq_true (by omega)
    have g4 : decide (((d + 1 : Nat) : Int) ≤ 6) = true := decide_eq_true (by omega)
    have i4 : decide ((d : Int) + 1 ≤ 6) = true := decide_eq_true (by omega)
    have f5 : decide (c ≤ 2000) = false := decide_eq_false (by omega)
    have g5 : decide ((c : Int) ≤ 2000) = false := decide_eq_false (by omega)
    clear HM k0 k1 k2 k3 k4 k5
    go_enter Try.func36, Try.ntmps36
    go_wp2_with fail
    refine (HC.out _ (ext_refl _)).mono ?_
    rintro e' w1 ⟨rfl, hb⟩
    have HB := hid hb
    clear hb
    go_wp2_with fail
    refine (HD.out _ HB.out).mono ?_
    rintro e' w2 ⟨rfl, hb⟩
    have HB := hid (ext_trans HB.out hb)
    clear hb
    go_wp2_with fail
    refine (HK.out _ HB.out).mono ?_
    rintro e' w3 ⟨rfl, hb⟩
    have HB := hid (ext_trans HB.out hb)
    clear hb
    go_wp2_with fail
    go_ret
    exact ⟨rfl, HB.out⟩
  obtain rfl : q = sh := by rw [HM.out, decide_eq_true k0, decide_eq_true k1, decide_eq_true k2, decide_eq_true k3, decide_eq_true k4, decide_eq_true k5]; simp
  have f0 : decide (0 ≤ n) = true := decide_eq_true (by omega)
  have f1 : decide (n ≤ 5) = true := decide_eq_true (by omega)
  have f2 : decide (z ≤ 40) = true := decide_eq_true (by omega)
  have g2 : decide ((z : Int) ≤ 40) = true := decide_eq_true (by omega)
  have f3 : decide (y ≤ 300) = true := decide_eq_true (by omega)
  have g3 : decide ((y : Int) ≤ 300) = true := decide_eq_true (by omega)
  have f4 : decide (d + 1 ≤ 6) = true := decide_eq_true (by omega)
  have g4 : decide (((d + 1 : Nat) : Int) ≤ 6) = true := decide_eq_true (by omega)
  have i4 : decide ((d : Int) + 1 ≤ 6) = true := decide_eq_true (by omega)
  have f5 : decide (c ≤ 2000) = true := decide_eq_true (by omega)
  have g5 : decide ((c : Int) ≤ 2000) = true := decide_eq_true (by omega)
  clear HM k0 k1 k2 k3 k4 k5
  go_enter Try.func36, Try.ntmps36
  go_wp2_with fail
  refine (HC.out _ (ext_refl _)).mono ?_
  rintro e' w1 ⟨rfl, hb⟩
  have HB := hid hb
  clear hb
  go_wp2_with fail
  refine (HD.out _ HB.out).mono ?_
  rintro e' w2 ⟨rfl, hb⟩
  have HB := hid (ext_trans HB.out hb)
  clear hb
  go_wp2_with fail
  refine (HK.out _ HB.out).mono ?_
  rintro e' w3 ⟨rfl, hb⟩
  have HB := hid (ext_trans HB.out hb)
  clear hb
  go_wp2_with fail
  refine (HH.out _ HB.out).mono ?_
  rintro e' w4 ⟨rfl, hb⟩
  have HB := hid (ext_trans HB.out hb)
  clear hb
  go_wp2_with fail
  go_ret
  exact ⟨rfl, HB.out⟩
end Go.Proofs.Ytoeegiaajngpeaa
