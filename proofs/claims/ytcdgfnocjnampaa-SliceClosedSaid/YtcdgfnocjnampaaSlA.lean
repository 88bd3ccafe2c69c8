/-
  Walks: what one attempt asks, as an iterator.
-/
import Derived.RangeFuncNested
import Derived.RangeFuncBound
import Derived.RangeFuncCalls
import Derived.RangeFuncLeaves
import Derived.RangeFuncBox
import Derived.TacticsInMore
import Derived.LoopNIn
import Derived.LoopIn
import Derived.Test.YtcdgfnocjnampaaRgF
import Derived.Test.YtcdgfnocjnampaaSlQ
import Derived.Test.YtcdgfnocjnampaaSlW2
namespace Go.Proofs.Ytcdgfnocjnampaa
set_option linter.unusedVariables false
set_option linter.unusedSimpArgs false
set_option linter.unusedVariables false
open Go Go.RowKit
attribute [local go_sem] Oper.semAt_some
def attC (a : Att) (r u : Value) : Array Value := #[.int .i64 a.th, .int .i64 a.tx, .int .i64 a.from_, .int .i64 a.to_, .int .i64 a.rv, .int .i64 a.wv, .bool a.com, r, u]
set_option maxRecDepth 100000 in
set_option maxHeartbeats 4000000 in
theorem asked_any (sv : Value) (x : Option Addr) (n c : Nat) (a : Att) (ar : Option Addr) (nr cr : Nat) (au : Option Addr) (nu cu : Nat) (w : World) (hv : sv = .slice x n c) :
    Calls Try.prog 16 #[sv, .agg (attC a (.slice ar nr cr) (.slice au nu cu))] w fun e w' => e = .returned (.func (.func 24) #[] #[.pointer (some ⟨w.heap.size + 1, 0, none⟩), .pointer (some ⟨w.heap.size, 0, none⟩)]) ∧
      w' = (w.alloc (.cells #[sv] 22)).alloc (.cells (attC a (.slice ar nr cr) (.slice au nu cu)) 29) := by
  subst hv
  unfold attC
  go_enter Try.func16, Try.ntmps16
  go_wp2_with fail
  go_ret
  exact ⟨rfl, rfl⟩
/-- What a round keeps: what lay below, the walks, and the iterator's two boxes. -/
def KeepA (n₀ B1 B2 : Nat) (c1 c2 : Array Value) (W W' : World) : Prop := KeepBW n₀ W W' ∧ (Blk W B1 c1 29 → Blk W' B1 c1 29) ∧ (Blk W B2 c2 22 → Blk W' B2 c2 22)
theorem keepA_t {n₀ B1 B2 : Nat} {c1 c2 : Array Value} {A B C : World} (h : KeepA n₀ B1 B2 c1 c2 A B) (k : KeepA n₀ B1 B2 c1 c2 B C) : KeepA n₀ B1 B2 c1 c2 A C := ⟨keepBW_t h.1 k.1, fun x => k.2.1 (h.2.1 x), fun x => k.2.2 (h.2.2 x)⟩
theorem keepA_b {n₀ B1 B2 : Nat} {c1 c2 : Array Value} {w : World} (hn : n₀ ≤ w.heap.size) (h1 : B1 < w.heap.size) (h2 : B2 < w.heap.size) (W : World) (l : Nat) (o o' : Obj) (hl : w.heap.size ≤ l) (h : W.heap[l]? = some o) (hc : o.isCells = false) (hw : o.isWalk = false) : KeepA n₀ B1 B2 c1 c2 W (W.putObj l o') :=
  ⟨keepBW_b hn W l o o' hl h hc hw, fun x => by unfold Blk at x ⊢; rw [World.putObj_heap_other (by omega)]; exact x, fun x => by unfold Blk at x ⊢; rw [World.putObj_heap_other (by omega)]; exact x⟩
theorem AbidesW.still {B : Nat} {J : World → Prop} (h : AbidesW B J) {W W' : World} (hJ : J W) (hb : Below W.heap.size W W') : J W' := h W W' Option.none hJ ⟨hb.os, hb.tape, hb.output, hb.size, fun k hk _ => hb.block k hk⟩ (fun r e => by cases e)
def rf (L : List Att) (a : Att) (p : Int × Int) : Option Nat := if 0 ≤ writerL L p.1 a.rv then some (writerL L p.1 a.rv).toNat else none
theorem askedR_take (L : List Att) (a : Att) (k : Nat) (h : k < a.reads.length) : (a.reads.take (k + 1)).filterMap (rf L a) = (a.reads.take k).filterMap (rf L a) ++ (rf L a a.reads[k]).toList := by
  rw [List.take_succ_eq_append_getElem h, List.filterMap_append]
  simp only [List.filterMap_cons, List.filterMap_nil]
  cases rf L a a.reads[k] <;> rfl
theorem asked_getR (L : List Att) (a : Att) (k : Nat) (h : k < a.reads.length) (q : Nat) (hq : rf L a a.reads[k] = some q) :
    ((a.reads.take k).filterMap (rf L a)).length < (asked L a).length ∧ (asked L a).getD ((a.reads.take k).filterMap (rf L a)).length 0 = q := by
  have e1 : askedR L a = a.reads.filterMap (rf L a) := rfl
  have e2 : a.reads.filterMap (rf L a) = (a.reads.take (k + 1)).filterMap (rf L a) ++ (a.reads.drop (k + 1)).filterMap (rf L a) := by rw [← List.filterMap_append, List.take_append_drop]
  unfold asked
  rw [e1, e2, askedR_take L a k h, hq]
  constructor
  · simp only [List.length_append, Option.toList_some, List.length_cons, List.length_nil]; omega
  · rw [List.getD_eq_getElem?_getD, List.append_assoc, List.append_assoc, List.getElem?_append_right (Nat.le_refl _), Nat.sub_self]
    rfl
def tf (L : List Att) (a : Att) (i : Nat) : Bool := beforeB a (L.getD i Att.zero)
theorem askedT_take (L : List Att) (a : Att) (k : Nat) : (List.range (k + 1)).filter (tf L a) = (List.range k).filter (tf L a) ++ (if tf L a k = true then [k] else []) := by
  rw [List.range_succ, List.filter_append]
  simp only [List.filter_cons, List.filter_nil]
theorem range_split (L : List Att) (a : Att) (k : Nat) : ∀ n, k ≤ n → ∃ r, (List.range n).filter (tf L a) = (List.range k).filter (tf L a) ++ r
  | 0, h => by
    have : k = 0 := by omega
    subst this
    exact ⟨[], by simp⟩
  | n + 1, h => by
    by_cases he : k = n + 1
    · subst he; exact ⟨[], by simp⟩
    · obtain ⟨r, hr⟩ := range_split L a k n (by omega)
      exact ⟨r ++ (if tf L a n = true then [n] else []), by rw [askedT_take, hr, List.append_assoc]⟩
theorem asked_getT (L : List Att) (a : Att) (k : Nat) (h : k < L.length) (hq : tf L a k = true) :
    (askedR L a).length + ((List.range k).filter (tf L a)).length < (asked L a).length ∧ (asked L a).getD ((askedR L a).length + ((List.range k).filter (tf L a)).length) 0 = k := by
  have e1 : askedT L a = (List.range L.length).filter (tf L a) := rfl
  obtain ⟨r, hr⟩ := range_split L a (k + 1) L.length h
  unfold asked
  rw [e1, hr, askedT_take, if_pos hq]
  constructor
  · simp only [List.length_append, List.length_cons, List.length_nil]; omega
  · rw [List.getD_eq_getElem?_getD, List.getElem?_append_right (by omega), show (askedR L a).length + ((List.range k).filter (tf L a)).length - (askedR L a).length = ((List.range k).filter (tf L a)).length by omega, List.append_assoc, List.getElem?_append_right (Nat.le_refl _), Nat.sub_self]
    rfl
set_option maxRecDepth 100000 in
set_option maxHeartbeats 4000000 in
/-- The iterator hands who is asked, one behind the other. -/
theorem asked_in (n : Nat) (hn : 1 ≤ n) (lp B1 B2 : Nat) (L : List Att) (sv : Value) (a : Att) (r u : Value) (w0 : World) (J : Nat → World → Prop) (W : World) (hab : ∀ k, AbidesW W.heap.size (J k)) (hL : RdAtts w0 L sv) (ha : RdPairs w0 a.reads r) (ha' : RdPairs w0 a.writes u) (hb : Below w0.heap.size w0 W)
    (hY : ∀ k W1, J k W1 → k < (asked L a).length → YieldAt Fence.wide (n - 1) Try.prog lp #[.int .i64 ((asked L a).getD k 0 : Nat)] W1 fun e W' => e = .returned (.bool true) ∧ J (k + 1) W' ∧ KeepA w0.heap.size B1 B2 (attC a r u) #[sv] W1 W')
    (h1 : Blk W B1 (attC a r u) 29) (h2 : Blk W B2 #[sv] 22) (h0 : J 0 W) :
    CallsIn Fence.wide n Try.prog 24 #[.func (.yield lp) #[] #[], .pointer (some ⟨B1, 0, none⟩), .pointer (some ⟨B2, 0, none⟩)] W fun e W' => (∃ v, e = .returned v) ∧ J (asked L a).length W' := by
  obtain ⟨x, cap, rfl, hlen, hx⟩ := id hL
  obtain ⟨ar, cr, rfl, hrl, hro, hrx⟩ := id ha
  obtain ⟨au, cu, rfl⟩ := ha'.shape
  have HX := hid hx
  have HRX := hid hrx
  have HAB := hid hab
  have HY := hid hY
  have HL := hid hL
  have HB0 := hid hb
  have HBK1 := hid h1
  have HBK2 := hid h2
  have HJ0 := hid h0
  have c7 : W.cell? ⟨B1, 7, none⟩ = some (.slice ar a.reads.length cr) := h1.cell 7 rfl
  have hbl1 := h1.lt
  clear hx hrx hab hY hL hb h1 h2 h0 ha ha' hro
  refine callsIn_of_wp Try.func24 rfl trivial ?_ rfl
  simp only [Try.ntmps24, List.size_toArray, List.length_cons, List.length_nil, Nat.reduceAdd, Nat.reduceSub, Array.replicate_succ, Array.replicate_zero, List.push_toArray, List.append_toArray, List.nil_append, List.cons_append]
  gi_wp2
  gi_loopw [12] (fun i wr => ∃ (k : Nat), k ≤ a.reads.length ∧ i = .int .i64 (k : Int) ∧ Hid (J ((a.reads.take k).filterMap (rf L a)).length wr) ∧ Hid (Below w0.heap.size w0 wr) ∧ Hid (Blk wr B1 (attC a (.slice ar a.reads.length cr) (.slice au a.writes.length cu)) 29) ∧ Hid (Blk wr B2 #[.slice x L.length cap] 22) ∧ Hid (W.heap.size ≤ wr.heap.size)) (fun i _ => a.reads.length - (intOf i).toNat)
  case atStart => exact ⟨0, Nat.zero_le _, rfl, HJ0, HB0, HBK1, HBK2, hid (Nat.le_refl _)⟩
  case round =>
    obtain ⟨k, hk, rfl, HJ, HB, HK1, HK2, HSZ⟩ := hrel
    by_cases hlt : k < a.reads.length
    · obtain ⟨b, o, rfl, hcell⟩ := HRX.out (by intro h; rw [h] at hlt; simp at hlt)
      obtain ⟨p0, p1⟩ := hcell k hlt
      have d0 := later HB.out p0
      have d1 := later HB.out p1
      have j1 : decide ((k : Int) < (a.reads.length : Int)) = true := by rw [decide_eq_true_iff]; omega
      have j2 : (0 : Int) ≤ (k : Int) := by omega
      have j3 : IntKind.i64.wrap ((k : Int) + 1) = (k : Int) + 1 := IntWalk.i64_in _ (by omega)
      have j4 : decide (k < a.reads.length) = true := by rw [decide_eq_true_iff]; omega
      have hA := ext_alloc (ext_refl wr) (.cells #[.int .i64 a.reads[k].1, .int .i64 a.reads[k].2] 31)
      have g2 := (HK2.out.below hA).cell 0 (v := .slice x L.length cap) rfl
      have g1 := (HK1.out.below hA).cell 4 (v := .int .i64 a.rv) rfl
      have hbw := lt_of_cell d0
      have l1 := HK1.out.lt
      have l2 := HK2.out.lt
      have HLT := hid hlt
      have HW := hid (writer_any L a.reads[k].1 a.rv (wr.alloc (.cells #[.int .i64 a.reads[k].1, .int .i64 a.reads[k].2] 31)) _ (HL.out.below (ext_trans HB.out hA)))
      have HT := hid (askedR_take L a k hlt)
      have HG := hid (asked_getR L a k hlt)
      have HRF : Hid (rf L a a.reads[k] = if 0 ≤ writerL L a.reads[k].1 a.rv then some (writerL L a.reads[k].1 a.rv).toNat else none) := hid rfl
      generalize writerL L a.reads[k].1 a.rv = q at HW HRF
      generalize rf L a a.reads[k] = rfk at HT HG HRF
      clear hcell p0 p1
      gi_wp2_with (first
        | (refine ⟨trivial, ?_⟩; gi_at_call 13; refine (callsIn_wide.2 HW.out).mono ?_; rintro e' w2 ⟨rfl, hb2⟩; (have HA2 := hid (ext_trans hA hb2)); (by_cases hq : (0 : Int) ≤ q)))
      · obtain ⟨m, rfl⟩ : ∃ m : Nat, q = (m : Int) := ⟨q.toNat, by omega⟩
        have hrf : rfk = some m := by rw [HRF.out, if_pos hq]; simp
        obtain ⟨hG1, hG2⟩ := HG.out m hrf
        have hJ2 : J ((a.reads.take k).filterMap (rf L a)).length w2 := AbidesW.still (HAB.out _) HJ.out HA2.out
        obtain ⟨fn, tmps, assign, body, hy, hR⟩ := HY.out _ w2 hJ2 hG1
        rw [hG2] at hy
        gi_wp2
        rw [hy]
        gi_wp2
        refine hR.mono ?_
        rintro e' W3 ⟨rfl, hJ3, hk3⟩
        have HK13 := hid (hk3.2.1 (HK1.out.below HA2.out))
        have HK23 := hid (hk3.2.2 (HK2.out.below HA2.out))
        have HB3 := hid ((ext_trans HB.out HA2.out).trans hk3.1.1)
        have HJ3 := hid hJ3
        have HS3 := hid (Nat.le_trans HSZ.out (Nat.le_trans HA2.out.size hk3.1.1.size))
        clear hJ3 hk3
        gi_wp2
        go_roundw
        case rel => exact ⟨k + 1, by have := HLT.out; omega, by simp, by rw [HT.out, hrf]; simpa using HJ3, HB3, HK13, HK23, HS3⟩
        case measure => have := HLT.out; simp [intOf]; omega
      · have hrf : rfk = none := by rw [HRF.out, if_neg (by omega)]
        have hq' : decide ((0 : Int) ≤ q) = false := decide_eq_false (by omega)
        gi_wp2
        refine ⟨(fun f h => by cases h), ?_⟩
        gi_wp2
        go_roundw
        case rel => exact ⟨k + 1, by have := HLT.out; omega, by simp, by rw [HT.out, hrf]; simpa using hid (AbidesW.still (HAB.out _) HJ.out HA2.out), hid (ext_trans HB.out HA2.out), hid (HK1.out.below HA2.out), hid (HK2.out.below HA2.out), hid (Nat.le_trans HSZ.out HA2.out.size)⟩
        case measure => have := HLT.out; simp [intOf]; omega
    · obtain rfl : k = a.reads.length := by omega
      have HJ0 : Hid (J (askedR L a).length wr) := hid (by have := HJ.out; rwa [List.take_length] at this)
      have j1 : decide ((a.reads.length : Int) < (a.reads.length : Int)) = false := by rw [decide_eq_false_iff_not]; omega
      have j4 : decide (a.reads.length < a.reads.length) = false := by rw [decide_eq_false_iff_not]; omega
      have g2 := HK2.out.cell 0 (v := .slice x L.length cap) rfl
      have l2 := HK2.out.lt
      gi_wp2
      gi_loopw [33] (fun i wr => ∃ (k : Nat), k ≤ L.length ∧ i = .int .i64 (k : Int) ∧ Hid (J ((askedR L a).length + ((List.range k).filter (tf L a)).length) wr) ∧ Hid (Below w0.heap.size w0 wr) ∧ Hid (Blk wr B1 (attC a (.slice ar a.reads.length cr) (.slice au a.writes.length cu)) 29) ∧ Hid (Blk wr B2 #[.slice x L.length cap] 22) ∧ Hid (W.heap.size ≤ wr.heap.size)) (fun i _ => L.length - (intOf i).toNat)
      case atStart => exact ⟨0, Nat.zero_le _, rfl, HJ0, HB, HK1, HK2, HSZ⟩
      case round =>
        clear g2 l2 HK1 HK2 HB HSZ HJ HJ0 j1 j4
        obtain ⟨k, hk, rfl, HJ, HB, HK1, HK2, HSZ⟩ := hrel
        by_cases hlt : k < L.length
        · obtain ⟨b, o, rfl, hcell⟩ := HX.out (by intro h; rw [h] at hlt; simp at hlt)
          obtain ⟨r9, u9, hc⟩ := hcell k hlt
          have hc := hc.below HB.out
          obtain ⟨a7, k7, hr7⟩ := hc.reads.shape
          obtain ⟨a8, k8, hr8⟩ := hc.writes.shape
          subst hr7 hr8
          have d0 := hc.c0
          have d1 := hc.c1
          have d2 := hc.c2
          have d3 := hc.c3
          have d4 := hc.c4
          have d5 := hc.c5
          have d6 := hc.c6
          have d7 := hc.c7
          have d8 := hc.c8
          have hbl := lt_of_cell d0
          have j1 : decide ((k : Int) < (L.length : Int)) = true := by rw [decide_eq_true_iff]; omega
          have j2 : (0 : Int) ≤ (k : Int) := by omega
          have j3 : IntKind.i64.wrap ((k : Int) + 1) = (k : Int) + 1 := IntWalk.i64_in _ (by omega)
          have j4 : decide (k < L.length) = true := by rw [decide_eq_true_iff]; omega
          have HLT := hid hlt
          have HT := hid (askedT_take L a k)
          have HG := hid (asked_getT L a k hlt)
          have HTF : Hid (tf L a k = (L[k].com && decide (L[k].th = a.th) && decide (L[k].tx < a.tx))) := hid (by
            show beforeB a (L.getD k Att.zero) = _
            rw [List.getD_eq_getElem?_getD, List.getElem?_eq_getElem hlt]; rfl)
          have hA := ext_alloc (ext_refl wr) (.cells #[.int .i64 L[k].th, .int .i64 L[k].tx, .int .i64 L[k].from_, .int .i64 L[k].to_, .int .i64 L[k].rv, .int .i64 L[k].wv, .bool L[k].com, .slice a7 L[k].reads.length k7, .slice a8 L[k].writes.length k8] 29)
          have HA := hid hA
          have e0 := (HK1.out.below hA).cell 0 (v := .int .i64 a.th) rfl
          have e1 := (HK1.out.below hA).cell 1 (v := .int .i64 a.tx) rfl
          have l1 := HK1.out.lt
          have y0 := HK1.out.cell 0 (v := .int .i64 a.th) rfl
          have y1 := HK1.out.cell 1 (v := .int .i64 a.tx) rfl
          generalize tf L a k = tfk at HT HG HTF
          generalize L[k].com = cm at *
          generalize L[k].th = cth at *
          generalize L[k].tx = ctx at *
          have HEND : tfk = false → J ((askedR L a).length + ((List.range (k + 1)).filter (tf L a)).length) (wr.alloc (.cells #[.int .i64 cth, .int .i64 ctx, .int .i64 L[k].from_, .int .i64 L[k].to_, .int .i64 L[k].rv, .int .i64 L[k].wv, .bool cm, .slice a7 L[k].reads.length k7, .slice a8 L[k].writes.length k8] 29)) := by
            intro ht
            rw [HT.out, ht]
            simpa using AbidesW.still (HAB.out _) HJ.out HA.out
          have HEND := hid HEND
          clear hc hcell hA
          cases cm
          · have htk : tfk = false := by rw [HTF.out]; rfl
            gi_wp2
            refine ⟨(fun f h => by cases h), ?_⟩
            gi_wp2
            go_roundw
            case rel => exact ⟨k + 1, HLT.out, by simp, hid (HEND.out htk), hid (ext_trans HB.out HA.out), hid (HK1.out.below HA.out), hid (HK2.out.below HA.out), hid (Nat.le_trans HSZ.out HA.out.size)⟩
            case measure => have := HLT.out; simp [intOf]; omega
          · by_cases h1 : cth = a.th
            · subst h1
              by_cases h2 : ctx < a.tx
              · have htk : tfk = true := by rw [HTF.out]; simp [h2]
                obtain ⟨hG1, hG2⟩ := HG.out htk
                obtain ⟨fn, tmps, assign, body, hy, hR⟩ := HY.out _ _ (AbidesW.still (HAB.out _) HJ.out HA.out) hG1
                rw [hG2] at hy
                gi_wp2
                erw [hy]
                gi_wp2
                refine hR.mono ?_
                rintro e' W3 ⟨rfl, hJ3, hk3⟩
                have HK13 := hid (hk3.2.1 (HK1.out.below HA.out))
                have HK23 := hid (hk3.2.2 (HK2.out.below HA.out))
                have HB3 := hid ((ext_trans HB.out HA.out).trans hk3.1.1)
                have HJ3 := hid hJ3
                have HS3 := hid (Nat.le_trans HSZ.out (Nat.le_trans HA.out.size hk3.1.1.size))
                clear hJ3 hk3
                gi_wp2
                go_roundw
                case rel => exact ⟨k + 1, by have := HLT.out; omega, by simp, by rw [HT.out, htk]; simpa [Nat.add_assoc] using HJ3, HB3, HK13, HK23, HS3⟩
                case measure => have := HLT.out; simp [intOf]; omega
              · have htk : tfk = false := by rw [HTF.out]; simp [h2]
                have f2 : decide (ctx < a.tx) = false := decide_eq_false h2
                gi_wp2
                refine ⟨(fun f h => by cases h), ?_⟩
                gi_wp2
                go_roundw
                case rel => exact ⟨k + 1, HLT.out, by simp, hid (HEND.out htk), hid (ext_trans HB.out HA.out), hid (HK1.out.below HA.out), hid (HK2.out.below HA.out), hid (Nat.le_trans HSZ.out HA.out.size)⟩
                case measure => have := HLT.out; simp [intOf]; omega
            · have htk : tfk = false := by rw [HTF.out]; simp [h1]
              have f1 : (cth == a.th) = false := beq_eq_false_iff_ne.2 h1
              gi_wp2
              refine ⟨(fun f h => by cases h), ?_⟩
              gi_wp2
              go_roundw
              case rel => exact ⟨k + 1, HLT.out, by simp, hid (HEND.out htk), hid (ext_trans HB.out HA.out), hid (HK1.out.below HA.out), hid (HK2.out.below HA.out), hid (Nat.le_trans HSZ.out HA.out.size)⟩
              case measure => have := HLT.out; simp [intOf]; omega
        · obtain rfl : k = L.length := by omega
          have j1 : decide ((L.length : Int) < (L.length : Int)) = false := by rw [decide_eq_false_iff_not]; omega
          have j4 : decide (L.length < L.length) = false := by rw [decide_eq_false_iff_not]; omega
          have hend : J (asked L a).length wr := by have := HJ.out; unfold asked; rw [List.length_append]; exact this
          gi_wp2
          go_end0
          exact ⟨⟨_, rfl⟩, hend⟩
end Go.Proofs.Ytcdgfnocjnampaa
