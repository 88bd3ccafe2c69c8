/-
  Joined texts: HiE HiF HiM HiO HiU.
-/
import Derived.RangeFuncNested
import Derived.RangeFuncBound
import Derived.RangeFuncCalls
import Derived.RangeFuncLeaves
import Derived.Shelf.Abstract
import Derived.Shelf.RegionOpen
import Derived.WalkKit
import Derived.OwnWalkIn
import Derived.TacticsInMore
import Derived.LoopNIn
import Derived.LoopIn
import Derived.Maps.OwnIn
import Derived.Maps.Views
import Derived.Test.YtnmbacleaijhmaaDoorRgF
import Derived.Test.YtnmbacleaijhmaaDoorSgA
import Derived.Test.YtnmbacleaijhmaaDoorShV
import Derived.Test.YtnmbacleaijhmaaDoorShVc
import Derived.RangeFuncBox
import Derived.Maps.AppendAt
import Derived.Test.YtnmbacleaijhmaaDoorTurn
import Derived.Laws.OwnMore
import Derived.Test.YtnmbacleaijhmaaDoorProg
import Derived.Test.YtnmbacleaijhmaaDoorSgB
import Derived.Sort.CutIn
/-
  Walk: the iterator of a trace's events, each with its attempt's place.
-/
namespace Go.Proofs.YtnmbacleaijhmaaDoor
set_option linter.unusedVariables false
set_option linter.unusedSimpArgs false
set_option linter.unusedVariables false
open Go Go.RowKit Go.Shelf
attribute [local go_sem] Oper.semAt_some
/-- A map of threads to places, in memory. -/
def MapI (W : World) (b n : Nat) (f : Int → Nat) : Prop :=
  ∃ D : DataW Unit, W.ownsMap Tryd.prog 3 (plainElem (H := Unit) Tryd.prog 3) b n D ∧ Maps.IsMap D ∧ ∀ t : Int, (Lit.int .i64 t).wf = true → D.atKey (.int .i64 t) (.lit (.int .i64 0)) = .lit (.int .i64 (f t : Int))
theorem MapI.new (W : World) : MapI (W.alloc (.map #[] 0)) W.heap.size 0 (fun _ => 0) :=
  ⟨_, World.ownsMap_made W _ _ _, Maps.isMap_empty, fun t ht => rfl⟩
theorem MapI.lt {W : World} {b n : Nat} {f : Int → Nat} (h : MapI W b n f) : b < W.heap.size := by
  obtain ⟨D, ⟨es, ck, hb, _⟩, _⟩ := h
  exact (Array.getElem?_eq_some_iff.1 hb).1
theorem MapI.block {W W' : World} {b n : Nat} {f : Int → Nat} (h : MapI W b n f) (hb : W'.heap[b]? = W.heap[b]?) : MapI W' b n f := by
  obtain ⟨D, ⟨es, ck, hh, r⟩, k⟩ := h
  exact ⟨D, ⟨es, ck, by rw [hb]; exact hh, r⟩, k⟩
theorem MapI.walks {W W' : World} {b n : Nat} {f : Int → Nat} (h : MapI W b n f) (hk : KeepsWalks W W') : MapI W' b n f := by
  obtain ⟨D, ⟨es, ck, hh, r⟩, k⟩ := h
  exact ⟨D, ⟨es, ck, hk.same b _ hh rfl, r⟩, k⟩
theorem MapI.grown {W W' : World} {b n : Nat} {f : Int → Nat} (h : MapI W b n f) (hg : W.grownBy W' none) : MapI W' b n f := h.block (hg.block b h.lt (by simp))
theorem wf64 {t : Int} (h : -9223372036854775808 ≤ t ∧ t ≤ 9223372036854775807) : (Lit.int .i64 t).wf = true := by
  simp [Lit.wf, IntKind.min, IntKind.max, IntKind.bits, IntKind.signed]; omega
theorem MapI.put {W' : World} {D : DataW Unit} {b n k : Nat} {t : Int} {f : Int → Nat} (hD : Maps.IsMap D) (hat : ∀ t : Int, (Lit.int .i64 t).wf = true → D.atKey (.int .i64 t) (.lit (.int .i64 0)) = .lit (.int .i64 (f t : Int)))
    (h : W'.ownsMap Tryd.prog 3 (plainElem (H := Unit) Tryd.prog 3) b n (D.put (.int .i64 t) (.lit (.int .i64 (k : Int))))) : MapI W' b n (updN f t k) := by
  refine ⟨_, h, ?_, fun u hu => ?_⟩
  · obtain ⟨es, rfl⟩ := hD; exact ⟨_, rfl⟩
  · unfold updN
    by_cases he : u = t
    · subst he
      rw [if_pos rfl]
      exact Maps.atKey_put_same hD (by simp [WideAt.IsKeyLit]) _ _
    · rw [if_neg he, Maps.atKey_put_other (by simp [he])]
      exact hat u hu
theorem AbidesW.calm {B : Nat} {J : World → Prop} (h : AbidesW B J) {W W' : World} (hJ : J W) (hg : W.grownBy W' none) : J W' := h W W' Option.none hJ hg (fun r e => by cases e)
theorem AbidesW.map {B : Nat} {J : World → Prop} (h : AbidesW B J) {W W' : World} {b n : Nat} {D : DataW Unit} {R : Value → Option (DataW Unit × List MemPlace)} {P : Program} {k : TypeId} (hJ : J W) (hg : W.grownBy W' (some b)) (hb : B ≤ b) (ho : W.ownsMap P k R b n D) : J W' := by
  obtain ⟨es, ck, hh, _⟩ := ho
  exact h W W' (some b) hJ hg (fun r e => by cases e; exact ⟨hb, _, hh, rfl⟩)
theorem step_len (h : HS) (i : Int) (e : Ev) : (stepH h i e).out.length ≤ h.out.length + 1 := by
  unfold stepH
  split
  · simp
  · split
    · omega
    · simp
theorem hist_len : ∀ (l : List Ev) (h : HS) (i : Int), (histF h i l).out.length ≤ h.out.length + l.length
  | [], h, i => Nat.le_refl _
  | e :: l, h, i => by
    have := hist_len l (stepH h i e) (i + 1)
    have h2 := step_len h i e
    simp only [List.length_cons]
    show (histF (stepH h i e) (i + 1) l).out.length ≤ _
    omega
set_option maxRecDepth 100000 in
set_option maxHeartbeats 4000000 in
/-- The iterator hands each event's place, and its attempt's. -/
theorem events1_in (F : Fence) (n : Nat) (hF : F.fn 37) (hro : F.round = none) (hn : 1 ≤ n) (lp B n₀ : Nat) (T V S : Int) (a : Option Addr) (l : List Ev) (cap : Nat) (hl : l.length ≤ 1048576) (J : Nat → World → Prop) (W : World) (hab : ∀ k, AbidesW W.heap.size (J k)) (hn₀ : n₀ ≤ W.heap.size)
    (hY : ∀ k W1, J k W1 → k < l.length → YieldAt F (n - 1) Tryd.prog lp #[.int .i64 (k : Int), .int .i64 (ofI l k)] W1 fun e W' => e = .returned (.bool true) ∧ J (k + 1) W' ∧ KeepBW n₀ W1 W')
    (hbox : W.cell? ⟨B, 3, none⟩ = some (.slice a l.length cap)) (hE : EvsAt W a l) (hEb : ∀ b o, a = some ⟨b, o, none⟩ → l ≠ [] → b < n₀) (h0 : J 0 W) :
    CallsIn F n Tryd.prog 37 #[.func (.yield lp) #[] #[], .pointer (some ⟨B, 0, none⟩)] W fun e W' => (∃ v, e = .returned v) ∧ J l.length W' := by
  have hmm := @run_makeMap Tryd.prog
  have HE := hid hE
  have HAB := hid hab
  have HY := hid hY
  have HL := hid hl
  have HEB := hid hEb
  have HN := hid hn₀
  have HJ0 := hid h0
  have hbox' : (W.alloc (.map #[] 0)).cell? ⟨B, 3, none⟩ = some (.slice a l.length cap) := cell_alloc hbox
  clear hE hab hY hl hEb hn₀ h0
  refine callsIn_of_wp Tryd.func37 rfl hF ?_ hro
  simp only [Tryd.ntmps37, List.size_toArray, List.length_cons, List.length_nil, Nat.reduceAdd, Nat.reduceSub, Array.replicate_succ, Array.replicate_zero, List.push_toArray, List.append_toArray, List.nil_append, List.cons_append]
  gi_wp2
  gi_loopw [4, 12] (fun b i wr => ∃ (k m : Nat), k ≤ l.length ∧ m ≤ k ∧ i = .int .i64 (k : Int) ∧ b = .int .i64 (((histT (l.take k)).out.length : Nat) : Int) ∧ Hid (MapI wr W.heap.size m (histT (l.take k)).last) ∧ Hid (J k wr) ∧ Hid (Below n₀ W wr)) (fun _ i _ => l.length - (intOf i).toNat)
  case atStart =>
    refine ⟨0, 0, Nat.zero_le _, Nat.le_refl _, rfl, rfl, hid (MapI.new W), hid ((HAB.out 0).calm HJ0.out (World.grownBy_alloc _ _ _)), hid ((Below.refl _ _).alloc HN.out _)⟩
  case round =>
    obtain ⟨k, m, hk, hm, rfl, rfl, HM, HJ, HB⟩ := hrel
    have HKL := hid hk
    by_cases hlt : k < l.length
    · have j1 : decide ((k : Int) < (l.length : Int)) = true := by rw [decide_eq_true_iff]; omega
      have j2 : (0 : Int) ≤ (k : Int) := by omega
      have j3 : IntKind.i64.wrap ((k : Int) + 1) = (k : Int) + 1 := IntWalk.i64_in _ (by have := HL.out; omega)
      have j4 : decide (k < l.length) = true := by rw [decide_eq_true_iff]; omega
      obtain ⟨b, o, rfl, hcell⟩ := HE.out.2 (by intro h; rw [h] at hlt; simp at hlt)
      have hbn := HEB.out b o rfl (by intro h; rw [h] at hlt; simp at hlt)
      have HOK := hid (HE.out.1 l[k] (List.getElem_mem hlt))
      have hof := ofI_eq hlt
      have hst := histT_step hlt
      have HY1 := hid (fun W1 hJ => HY.out k W1 hJ hlt)
      have hole : (histT (l.take k)).out.length ≤ k := by
        have := hist_len (l.take k) newH 0
        rw [List.length_take, Nat.min_eq_left hk] at this
        show (histF newH 0 (l.take k)).out.length ≤ k
        have h0 : newH.out.length = 0 := rfl
        omega
      have j5 : IntKind.i64.wrap (((histT (l.take k)).out.length : Int) + 1) = ((histT (l.take k)).out.length : Int) + 1 := IntWalk.i64_in _ (by have := HL.out; omega)
      rcases hek : l[k] with ⟨kind, th, tx, at_, v, x, why⟩
      have e0 := (HB.out.cell (p := ⟨b, o + k * 7 + 0, none⟩) hbn).trans (hcell k hlt 0 (.int .u8 kind) (by rw [hek]; rfl))
      have e1 := (HB.out.cell (p := ⟨b, o + k * 7 + 1, none⟩) hbn).trans (hcell k hlt 1 (.int .i64 th) (by rw [hek]; rfl))
      have e2 := (HB.out.cell (p := ⟨b, o + k * 7 + 2, none⟩) hbn).trans (hcell k hlt 2 (.int .i64 tx) (by rw [hek]; rfl))
      have e3 := (HB.out.cell (p := ⟨b, o + k * 7 + 3, none⟩) hbn).trans (hcell k hlt 3 (.int .i64 at_) (by rw [hek]; rfl))
      have e4 := (HB.out.cell (p := ⟨b, o + k * 7 + 4, none⟩) hbn).trans (hcell k hlt 4 (.int .i64 v) (by rw [hek]; rfl))
      have e5 := (HB.out.cell (p := ⟨b, o + k * 7 + 5, none⟩) hbn).trans (hcell k hlt 5 (.int .i64 x) (by rw [hek]; rfl))
      have e6 := (HB.out.cell (p := ⟨b, o + k * 7 + 6, none⟩) hbn).trans (hcell k hlt 6 (.int .u8 why) (by rw [hek]; rfl))
      rw [Nat.add_zero] at e0
      rw [hek] at HOK hof hst
      have HLT := hid hlt
      obtain ⟨W1, hW1⟩ : ∃ W1, W1 = wr.alloc (.cells #[.int .u8 kind, .int .i64 th, .int .i64 tx, .int .i64 at_, .int .i64 v, .int .i64 x, .int .u8 why] 32) := ⟨_, rfl⟩
      have hJ1 : J k W1 := (HAB.out k).calm HJ.out (by rw [hW1]; exact World.grownBy_alloc _ _ _)
      have HM1 : Hid (MapI W1 W.heap.size m (histT (l.take k)).last) := hid (HM.out.grown (by rw [hW1]; exact World.grownBy_alloc _ _ _))
      have HB1 : Hid (Below n₀ W W1) := hid (by rw [hW1]; exact HB.out.alloc (Nat.le_trans HN.out HB.out.size) _)
      have hkey := Maps.keyOf_int_mk (P := Tryd.prog) Tryd.underlying3 (wf64 HOK.out.2.1)
      clear hcell hek hlt hk
      by_cases k1 : kind = 1
      · subst k1
        have hof1 : ofI l k = (((histT (l.take k)).out.length : Nat) : Int) := by rw [hof]; unfold ofH; exact if_pos rfl
        obtain ⟨D, hown, hD, hat⟩ := HM1.out
        have HAT := hid (And.intro hD hat)
        have HST : Hid ((histT (l.take (k + 1))).out.length = (histT (l.take k)).out.length + 1 ∧ (histT (l.take (k + 1))).last = updN (histT (l.take k)).last th (histT (l.take k)).out.length) := hid (by
          rw [hst]; unfold stepH; rw [if_pos rfl]; exact ⟨by simp, rfl⟩)
        have hwfn : (Lit.int .i64 (((histT (l.take k)).out.length : Nat) : Int)).wf = true := wf64 (by have := HL.out; have := HLT.out; omega)
        have hml : m < maxLen := by have := HL.out; have := HLT.out; unfold maxLen; omega
        rw [hof1] at HY1
        have HJ1 := hid hJ1
        clear hof hof1 hst hD hat hJ1 HM
        have HW1 := hid hW1
        clear hW1
        gi_wp2_with (first
          | (gi_at_mapUpdate; rw [← HW1.out]; refine wpListIn_mapUpdate_own _ rfl _ _ _ 77 rfl 3 3 (Maps.int_keyed Tryd.underlying3) Tryd.underlying77 _ W.heap.size m _ rfl hown hml _ _ _ rfl rfl hkey _ [] (plainElem_int Tryd.underlying3 hwfn) ?_; intro w1 hown1 hgrow1; obtain ⟨fn, tmps, assign, body, hy, hR⟩ := HY1.out w1 ((HAB.out k).map HJ1.out hgrow1 (Nat.le_refl _) hown); (try dsimp only at hy)))
        refine hR.mono ?_
        rintro e' W3 ⟨rfl, hJ3, hk3⟩
        have HM3 : Hid (MapI W3 W.heap.size (m + 1) (histT (l.take (k + 1))).last) := hid (by rw [HST.out.2]; exact (MapI.put HAT.out.1 HAT.out.2 hown1).walks hk3.2)
        have HB3 : Hid (Below n₀ W W3) := hid ((HB1.out.grown hgrow1 (Nat.le_trans HN.out HB1.out.size) (fun k e => by cases e; exact HN.out)).trans hk3.1)
        have HJ3 := hid hJ3
        clear hJ3 hk3
        gi_wp2
        go_roundw
        case rel => exact ⟨k + 1, m + 1, by have := HLT.out; omega, by omega, by simp, by rw [HST.out.1]; simp, HM3, HJ3, HB3⟩
        case measure => have := HLT.out; simp [intOf]; omega
      · by_cases k13 : kind = 13
        · subst k13
          have hof1 : ofI l k = -1 := by rw [hof]; unfold ofH; rfl
          have HST : Hid ((histT (l.take (k + 1))).out.length = (histT (l.take k)).out.length ∧ (histT (l.take (k + 1))).last = (histT (l.take k)).last) := hid (by
            rw [hst]; exact ⟨rfl, rfl⟩)
          obtain ⟨fn, tmps, assign, body, hy, hR⟩ := HY1.out W1 hJ1
          rw [hof1] at hy
          subst hW1
          clear hof hof1 hst hJ1 HM
          gi_wp2
          refine hR.mono ?_
          rintro e' W3 ⟨rfl, hJ3, hk3⟩
          have HM3 : Hid (MapI W3 W.heap.size m (histT (l.take (k + 1))).last) := hid (by rw [HST.out.2]; exact HM1.out.walks hk3.2)
          have HB3 : Hid (Below n₀ W W3) := hid (HB1.out.trans hk3.1)
          have HJ3 := hid hJ3
          clear hJ3 hk3
          gi_wp2
          go_roundw
          case rel => exact ⟨k + 1, m, by have := HLT.out; omega, by omega, by simp, by rw [HST.out.1], HM3, HJ3, HB3⟩
          case measure => have := HLT.out; simp [intOf]; omega
        · have g1 : (kind == 1) = false := beq_eq_false_iff_ne.2 k1
          have g13 : (kind == 13) = false := beq_eq_false_iff_ne.2 k13
          have hof1 : ofI l k = (((histT (l.take k)).last th : Nat) : Int) := by rw [hof]; unfold ofH; rw [if_neg k1, if_neg k13]
          obtain ⟨D, hown, hD, hat⟩ := HM1.out
          have HST : Hid ((histT (l.take (k + 1))).out.length = (histT (l.take k)).out.length ∧ (histT (l.take (k + 1))).last = (histT (l.take k)).last) := hid (by
            rw [hst]; unfold stepH; rw [if_neg k1, if_neg k13]; exact ⟨by simp, rfl⟩)
          have hat1 := hat th (wf64 HOK.out.2.1)
          rw [hof1] at HY1
          have HJ1 := hid hJ1
          have HAT1 := hid hat1
          clear hof hof1 hst hD hat hat1 hJ1 HM k1 k13
          have HW1 := hid hW1
          clear hW1
          gi_wp2_with (first
            | (gi_at_lookup; rw [← HW1.out]; refine wpListIn_lookup_own_int _ rfl _ _ 77 rfl 3 3 .i64 (Maps.int_keyed Tryd.underlying3) Tryd.underlying77 Tryd.underlying3 (Tryd.zeroValue3 _) W.heap.size m _ rfl hown _ _ rfl hkey ?_; intro c hatc hwc; obtain rfl : c = (((histT (l.take k)).last th : Nat) : Int) := (by (have := hatc.symm.trans HAT1.out; simpa using this)); clear hatc; obtain ⟨fn, tmps, assign, body, hy, hR⟩ := HY1.out W1 HJ1.out; (try dsimp only at hy)))
          refine hR.mono ?_
          rintro e' W3 ⟨rfl, hJ3, hk3⟩
          have HM3 : Hid (MapI W3 W.heap.size m (histT (l.take (k + 1))).last) := hid (by rw [HST.out.2]; exact HM1.out.walks hk3.2)
          have HB3 : Hid (Below n₀ W W3) := hid (HB1.out.trans hk3.1)
          have HJ3 := hid hJ3
          clear hJ3 hk3
          gi_wp2
          go_roundw
          case rel => exact ⟨k + 1, m, by have := HLT.out; omega, by omega, by simp, by rw [HST.out.1], HM3, HJ3, HB3⟩
          case measure => have := HLT.out; simp [intOf]; omega
    · obtain rfl : k = l.length := by have := HKL.out; omega
      have j1 : decide ((l.length : Int) < (l.length : Int)) = false := by rw [decide_eq_false_iff_not]; omega
      have j4 : decide (l.length < l.length) = false := by rw [decide_eq_false_iff_not]; omega
      gi_wp2
      go_end0
      exact ⟨⟨_, rfl⟩, HJ.out⟩
end Go.Proofs.YtnmbacleaijhmaaDoor
/-
  Walks: history.events hands out its iterator; what a range over it may lean on; history.Split.
-/
namespace Go.Proofs.YtnmbacleaijhmaaDoor
set_option linter.unusedVariables false
set_option linter.unusedSimpArgs false
set_option linter.unusedVariables false
open Go Go.RowKit Go.Shelf
attribute [local go_sem] Oper.semAt_some
set_option maxRecDepth 100000 in
set_option maxHeartbeats 4000000 in
theorem events_any (T V S : Int) (a : Option Addr) (n cap : Nat) (w : World) :
    Calls Tryd.prog 26 #[trA T V S a n cap] w fun e w' => e = .returned (.func (.func 37) #[] #[.pointer (some ⟨w.heap.size, 0, none⟩)]) ∧ w' = w.alloc (.cells #[.int .i64 T, .int .i64 V, .int .i64 S, .slice a n cap] 36) := by
  dsimp only [trA]
  go_enter Tryd.func26, Tryd.ntmps26
  go_wp2_with fail
  go_ret
  exact ⟨rfl, rfl⟩
theorem EvsAt.low {w w' : World} {n₀ : Nat} {a : Option Addr} {l : List Ev} (h : EvsAt w a l) (hb : Below n₀ w w') (hl : ∀ b o, a = some ⟨b, o, none⟩ → l ≠ [] → b < n₀) : EvsAt w' a l :=
  ⟨h.1, fun hn => by
    obtain ⟨b, o, h1, h2⟩ := h.2 hn
    exact ⟨b, o, h1, fun k hk j v hv => (hb.cell (p := ⟨b, o + k * 7 + j, none⟩) (hl b o h1 hn)).trans (h2 k hk j v hv)⟩⟩
theorem evs_lt {w : World} {a : Option Addr} {l : List Ev} (h : EvsAt w a l) : ∀ b o, a = some ⟨b, o, none⟩ → l ≠ [] → b < w.heap.size := by
  intro b o ha hn
  obtain ⟨b', o', h1, h2⟩ := h.2 hn
  rw [ha] at h1
  cases h1
  have hp : 0 < l.length := List.length_pos_iff.2 hn
  exact lt_of_cell (h2 0 hp 0 (.int .u8 (l[0]'hp).kind) rfl)
/-- What a range over the events may lean on. -/
theorem events_runs (n n₀ : Nat) (hn : 1 ≤ n) (B : Nat) (T V S : Int) (a : Option Addr) (l : List Ev) (cap : Nat) (hl : l.length ≤ 1048576) (w : World) (hn₀ : n₀ ≤ w.heap.size)
    (hbox : w.cell? ⟨B, 3, none⟩ = some (.slice a l.length cap)) (hE : EvsAt w a l) (hEb : ∀ b o, a = some ⟨b, o, none⟩ → l ≠ [] → b < n₀) :
    SeqRuns Fence.wide n Tryd.prog 37 #[.pointer (some ⟨B, 0, none⟩)] (fun k => #[.int .i64 (k : Int), .int .i64 (ofI l k)]) l.length (KeepBW n₀) w := by
  intro lp J W hW hab hY h0
  exact events1_in Fence.wide n trivial rfl hn lp B n₀ T V S a l cap hl J W hab (Nat.le_trans hn₀ hW.size) hY ((hW.cell (p := ⟨B, 3, none⟩) (lt_of_cell hbox)).trans hbox) (hE.below hW) hEb h0
theorem checkT_fine {T V S : Int} {l : List Ev} (h : (checkT T V S l).2 = 0) : sizeOk T V S = true ∧ l.length ≤ 1048576 ∧ ∃ s, Hist T V S l s := by
  unfold checkT at h
  split at h
  · cases h
  · rename_i hz
    have hz : sizeOk T V S = true := by simpa using hz
    split at h
    · cases h
    · split at h
      · cases h
      · rename_i h1 h2
        have hc : comesS (newS T V S) l = l.length := by have := comesS_le l (newS T V S); omega
        have := (comes_iff l (newS T V S)).1 hc
        obtain ⟨s, hs⟩ := Option.isSome_iff_exists.1 this
        exact ⟨hz, by omega, s, hz, hs⟩
theorem infoInt : (Tryd.prog.info? 3).map (fun i => (i.zero, i.size, i.bytes)) = some (some (.int .i64 0), 1, 8) := by kernel_rfl
/-- What Split comes to. -/
def SplitP (T V S : Int) (l : List Ev) (w : World) (e : Ending) (w' : World) : Prop :=
  ∃ v, e = .returned (.tuple #[v, .int .i64 (checkT T V S l).2]) ∧ Below w.heap.size w w' ∧
    w'.ownsRow w.heap.size 3 1 v (if (checkT T V S l).2 = 0 then l.length else 0) (if (checkT T V S l).2 = 0 then (ofT l).map (.int .i64) else [])
set_option maxRecDepth 100000 in
set_option maxHeartbeats 4000000 in
theorem split_no (T V S : Int) (a : Option Addr) (l : List Ev) (cap : Nat) (w : World) (hE : EvsAt w a l) (hK : KindsAt w) (hT : TabOk w) (hc : (checkT T V S l).2 ≠ 0) :
    Calls Tryd.prog 23 #[trA T V S a l.length cap] w (SplitP T V S l w) := by
  obtain ⟨W1, hW1⟩ : ∃ W1, W1 = w.alloc (.cells #[.int .i64 T, .int .i64 V, .int .i64 S, .slice a l.length cap] 36) := ⟨_, rfl⟩
  have hB1 : Below w.heap.size w W1 := by rw [hW1]; exact ext_alloc (ext_refl _) _
  have HC := hid (check_all T V S a l cap W1 (hE.below hB1) (hK.below hB1) (hT.below hB1))
  have HP : ∀ W', Below W1.heap.size W1 W' → SplitP T V S l w (.returned (.tuple #[.slice none 0 0, .int .i64 (checkT T V S l).2])) W' := fun W' hb => ⟨_, rfl, ext_trans hB1 hb, by rw [if_neg hc, if_neg hc]; exact World.ownsRow_nil _ _ _ _⟩
  have HP := hid HP
  obtain ⟨Q, hQ⟩ : ∃ Q, Q = SplitP T V S l w := ⟨_, rfl⟩
  rw [← hQ] at HP ⊢
  obtain ⟨p, q, hpq⟩ : ∃ p q, checkT T V S l = (p, q) := ⟨_, _, rfl⟩
  rw [hpq] at HC HP hc
  dsimp only at HC HP hc
  have g1 : (q == 0) = false := beq_eq_false_iff_ne.2 hc
  have g2 : (q != 0) = true := bne_iff_ne.2 hc
  dsimp only [trA] at HC ⊢
  have HW1 := hid hW1
  clear hE hK hT hc hQ hW1 hB1 hpq
  go_enter Tryd.func23, Tryd.ntmps23
  go_wp2_with fail
  rw [← HW1.out]
  refine HC.out.mono ?_
  rintro e' w2 ⟨rfl, hb2⟩
  go_wp2_with fail
  exact HP.out _ hb2
set_option maxRecDepth 100000 in
set_option maxHeartbeats 4000000 in
theorem split_ok (T V S : Int) (a : Option Addr) (l : List Ev) (cap : Nat) (w : World) (hE : EvsAt w a l) (hK : KindsAt w) (hT : TabOk w) (hc : (checkT T V S l).2 = 0) :
    Calls Tryd.prog 23 #[trA T V S a l.length cap] w (SplitP T V S l w) := by
  obtain ⟨W1, hW1⟩ : ∃ W1, W1 = w.alloc (.cells #[.int .i64 T, .int .i64 V, .int .i64 S, .slice a l.length cap] 36) := ⟨_, rfl⟩
  have hB1 : Below w.heap.size w W1 := by rw [hW1]; exact ext_alloc (ext_refl _) _
  have hbx : Blk W1 w.heap.size #[.int .i64 T, .int .i64 V, .int .i64 S, .slice a l.length cap] 36 := by rw [hW1]; exact Blk.new _ _ _
  have HC := hid (check_all T V S a l cap W1 (hE.below hB1) (hK.below hB1) (hT.below hB1))
  have HP : ∀ v W', Below w.heap.size w W' → W'.ownsRow w.heap.size 3 1 v l.length ((ofT l).map (.int .i64)) → SplitP T V S l w (.returned (.tuple #[v, .int .i64 0])) W' := fun v W' hb ho => ⟨v, by rw [hc], hb, by rw [if_pos hc, if_pos hc]; exact ho⟩
  have HP := hid HP
  obtain ⟨Q, hQ⟩ : ∃ Q, Q = SplitP T V S l w := ⟨_, rfl⟩
  rw [← hQ] at HP ⊢
  have hlen := (checkT_fine hc).2.1
  obtain ⟨p, q, hpq⟩ : ∃ p q, checkT T V S l = (p, q) := ⟨_, _, rfl⟩
  rw [hpq] at HC hc
  dsimp only at HC hc
  subst hc
  dsimp only [trA] at HC ⊢
  have HW1 := hid hW1
  have HB1 := hid hB1
  have HE := hid hE
  have HL := hid hlen
  have HX := hid hbx
  have HEV := hid (events_any T V S a l.length cap)
  dsimp only [trA] at HEV
  clear hE hK hT hQ hW1 hB1 hpq hlen hbx
  refine (callsIn_wide (n := 3)).1 ?_
  refine callsIn_of_wp_marks Tryd.func23 rfl trivial ?_ rfl
  simp only [Tryd.ntmps23, List.size_toArray, List.length_cons, List.length_nil, Nat.reduceAdd, Nat.reduceSub, Array.replicate_succ, Array.replicate_zero, List.push_toArray, List.append_toArray, List.nil_append, List.cons_append]
  gi_wp2_with (first
    | (refine ⟨trivial, ?_⟩; gi_at_call 14; rw [← HW1.out]; refine (callsIn_wide.2 HC.out).mono ?_; rintro e' w2 ⟨rfl, hb2⟩; have hx2 := (HX.out.below hb2).alloc (.cells #[.slice none 0 0] 29); have x0 := hx2.cell 0 (v := .int .i64 T) rfl; have x1 := hx2.cell 1 (v := .int .i64 V) rfl; have x2 := hx2.cell 2 (v := .int .i64 S) rfl; have x3 := hx2.cell 3 (v := .slice a l.length cap) rfl)
    | (refine ⟨trivial, ?_⟩; gi_at_call 26; refine (callsIn_wide.2 (HEV.out _)).mono ?_; rintro e' w3 ⟨rfl, rfl⟩))
  obtain ⟨W2, hW2⟩ : ∃ W2, W2 = (w2.alloc (.cells #[.slice none 0 0] 29)).alloc (.cells #[.int .i64 T, .int .i64 V, .int .i64 S, .slice a l.length cap] 36) := ⟨_, rfl⟩
  have hB2 : Below w2.heap.size w2 W2 := by rw [hW2]; exact ext_alloc (ext_alloc (ext_refl _) _) _
  have hBw2 : Below w.heap.size w w2 := ext_trans HB1.out hb2
  have hBw : Below w.heap.size w W2 := ext_trans hBw2 hB2
  have hsz : W2.heap.size = w2.heap.size + 2 := by rw [hW2, World.size_alloc, World.size_alloc]
  have bx6 : Boxed W2 w2.heap.size 29 (.slice none 0 0) := by rw [hW2]; exact (Boxed.new _ _ _).alloc _
  have bxt : W2.cell? ⟨w2.heap.size + 1, 3, none⟩ = some (.slice a l.length cap) := by
    rw [hW2]
    have := (Blk.new (w2.alloc (.cells #[.slice none 0 0] 29)) #[.int .i64 T, .int .i64 V, .int .i64 S, .slice a l.length cap] 36).cell 3 (v := .slice a l.length cap) rfl
    rwa [World.size_alloc] at this
  have hEW := HE.out.below hBw
  have hEb := evs_lt HE.out
  have hle2 : w.heap.size ≤ w2.heap.size := hBw2.size
  rw [← hW2]
  have HR := hid (events_runs 2 w.heap.size (by omega) (w2.heap.size + 1) T V S a l cap HL.out W2 hBw.size bxt hEW hEb)
  have HBW := hid hBw
  have HSZ := hid (And.intro hsz hle2)
  have hi := info_parts infoInt
  obtain ⟨i0, hi0, hz0, hz1, hz2⟩ := hi
  clear hEW hEb hB2 hBw2 hBw x0 x1 x2 x3 hx2 hW2
  apply wpIn_range_runs (encs := fun k => #[.int .i64 (k : Int), .int .i64 (ofI l k)]) (Kp := KeepBW w.heap.size) (N := l.length) (w0 := W2) rfl (by omega) (gf := 37) (lb := #[.pointer (some ⟨w2.heap.size + 1, 0, none⟩)]) rfl trivial (enters_of Tryd.func37 (by kernel_rfl) rfl) HR.out keepBW_t (keepBW_b HBW.out.size) (Below.refl _ _) (fun _ => rfl)
    (fun k W => (∃ v, Boxed W w2.heap.size 29 v ∧ W.ownsRow w.heap.size 3 1 v k (((ofT l).take k).map (.int .i64)) ∧ (v = .slice none 0 0 ↔ k = 0)) ∧ Below w.heap.size w W)
    (OwnFrom.and (Own.from (holdsRow_own w.heap.size w2.heap.size 29 3 1 (fun k => k) (fun k => ((ofT l).take k).map (.int .i64)) (fun k v => v = .slice none 0 0 ↔ k = 0)) _) (ownFrom_below (Nat.le_refl _) HBW.out.size))
    ⟨⟨_, bx6, by simpa using World.ownsRow_nil _ _ _ _, by simp⟩, HBW.out⟩
  case hassign =>
    intro lp k W K hK
    gi_wp2
    exact hK
  case hbody =>
    rintro lp k W ⟨⟨v, hv, hrow, hnil⟩, hB⟩ hk
    have hlo : (ofT l).length = l.length := ofF_len l newH 0
    have hT : (ofT l).take (k + 1) = (ofT l).take k ++ [ofI l k] := by
      rw [List.take_succ_eq_append_getElem (by rw [hlo]; exact hk)]
      congr 2
      simp only [ofT_eq]
      rw [List.getElem_map, List.getElem_range]
    have h63 : k + 1 ≤ maxLen := by have := HL.out; unfold maxLen; omega
    have hby : (k + 1) * 8 ≤ 140737488355328 := by have := HL.out; omega
    have hvc := hv.cell
    have hle := HSZ.out.2
    have hsW := hB.size
    gi_wp2_with (gi_at_builtin; refine wpListIn_append_own _ rfl _ _ 29 rfl w.heap.size 3 i0 (.int .i64 0) 1 8 Tryd.underlying29 hi0 hz0 hz1 hz2 rfl (by decide) _ _ _ rfl (hrow.alloc _) ⟨W.heap.size, 0, none⟩ 1 1 [.int .i64 (ofI l k)] rfl rfl (cell_one_new _ _ _) (by simp [Value.oneCell']) h63 hby (by rw [World.size_alloc]; omega) ?_; intro v' w1 hown' hgrow _; obtain ⟨g', cap', rfl⟩ := ownsRow_succ hown'; obtain ⟨hv1, hv2, hr2, hk2, hb2'⟩ := hv.appended (by decide) hrow hsW hle hown' hgrow; have hc1 := hv1.cell; have hf1 := hv1.frozen)
    exact ⟨hk2.from _, ⟨hb2', hk2.walks⟩, ⟨_, hv2, by rw [hT, List.map_append]; exact hr2, by simp⟩, hB.trans hb2'⟩
  case hdone =>
    rintro D W hD ⟨⟨v, hv, hrow, hnil⟩, hB⟩ hK
    have hvc := hv.cell
    have hlo : (ofT l).length = l.length := ofF_len l newH 0
    gi_wp2
    refine ⟨by simp, .inl ⟨_, _, rfl, run_takeDeferred hK, ?_⟩⟩
    refine ⟨.tuple #[v, .int .i64 0], by simp [results, Tryd.results23, go_sem], ?_⟩
    refine HP.out v _ (hB.trans (belowK_b HSZ.out.2 W D _ _ (by have := HSZ.out; omega) hK rfl rfl)) ?_
    have := ownsRow_putObj hrow (.deferred none) hK rfl
    rwa [← hlo, List.take_length, hlo] at this
end Go.Proofs.YtnmbacleaijhmaaDoor
/-
  Attempts in memory, as a history that is being told holds them. Said over the program's types alone.
-/
namespace Go.Proofs.YtnmbacleaijhmaaDoor
set_option linter.unusedVariables false
set_option linter.unusedSimpArgs false
set_option linter.unusedVariables false
open Go Go.RowKit
def pairsL (l : List (Int × Int)) : List Value := l.flatMap fun p => [.int .i64 p.1, .int .i64 p.2]
theorem pairsL_len (l : List (Int × Int)) : (pairsL l).length = l.length * 2 := by
  induction l with
  | nil => rfl
  | cons p l ih => unfold pairsL at ih ⊢; rw [List.flatMap_cons, List.length_append, ih]; simp; omega
theorem pairsL_snoc (l : List (Int × Int)) (p : Int × Int) : pairsL (l ++ [p]) = pairsL l ++ [.int .i64 p.1, .int .i64 p.2] := by
  unfold pairsL; rw [List.flatMap_append]; rfl
def attL (a : Att) (r w : Value) : List Value := [.int .i64 a.th, .int .i64 a.tx, .int .i64 a.from_, .int .i64 a.to_, .int .i64 a.rv, .int .i64 a.wv, .bool a.com, r, w]
def attsL (L : List Att) (H : Nat → Bool → Value) : List Value := (List.range L.length).flatMap fun k => attL (L.getD k Att.zero) (H k false) (H k true)
/-- Rows of m cells, by their places. -/
theorem rowsF_len {m : Nat} (f : Nat → List Value) (hf : ∀ i, (f i).length = m) : ∀ n, ((List.range n).flatMap f).length = n * m
  | 0 => by simp
  | n + 1 => by rw [List.range_succ, List.flatMap_append, List.length_append, rowsF_len f hf n]; simp [hf]; rw [Nat.succ_mul]
theorem rowsF_get {m : Nat} (f : Nat → List Value) (hf : ∀ i, (f i).length = m) {k j : Nat} (hj : j < m) : ∀ n, k < n → ((List.range n).flatMap f)[k * m + j]? = (f k)[j]?
  | 0, h => absurd h (Nat.not_lt_zero _)
  | n + 1, h => by
    rw [List.range_succ, List.flatMap_append]
    by_cases he : k = n
    · subst he
      rw [List.getElem?_append_right (by rw [rowsF_len f hf]; omega), rowsF_len f hf, Nat.add_sub_cancel_left]
      simp
    · have hlt : k < n := by omega
      have : k * m + j < n * m := by
        have : (k + 1) * m ≤ n * m := Nat.mul_le_mul_right _ hlt
        rw [Nat.succ_mul] at this; omega
      rw [List.getElem?_append_left (by rw [rowsF_len f hf]; exact this)]
      exact rowsF_get f hf hj n hlt
theorem rowsF_congr (f g : Nat → List Value) : ∀ n, (∀ i, i < n → f i = g i) → (List.range n).flatMap f = (List.range n).flatMap g
  | 0, _ => rfl
  | n + 1, h => by
    rw [List.range_succ, List.flatMap_append, List.flatMap_append, rowsF_congr f g n (fun i hi => h i (by omega))]
    simp [h n (by omega)]
theorem rowsF_set {m : Nat} (f : Nat → List Value) (hf : ∀ i, (f i).length = m) {k j : Nat} (hj : j < m) (u : Value) : ∀ n, k < n → ((List.range n).flatMap f).set (k * m + j) u = (List.range n).flatMap fun i => if i = k then (f i).set j u else f i
  | 0, h => absurd h (Nat.not_lt_zero _)
  | n + 1, h => by
    rw [List.range_succ, List.flatMap_append, List.flatMap_append]
    by_cases he : k = n
    · subst he
      rw [List.set_append_right _ _ (by rw [rowsF_len f hf]; omega), rowsF_len f hf, Nat.add_sub_cancel_left]
      congr 1
      · exact rowsF_congr _ _ _ (fun i hi => by rw [if_neg (by omega)])
      · simp
    · have hlt : k < n := by omega
      have : k * m + j < n * m := by
        have : (k + 1) * m ≤ n * m := Nat.mul_le_mul_right _ hlt
        rw [Nat.succ_mul] at this; omega
      rw [List.set_append_left _ _ (by rw [rowsF_len f hf]; exact this), rowsF_set f hf hj u n hlt]
      congr 1
      have he' : ¬ n = k := fun e => he e.symm
      simp [he']
theorem attL_len (a : Att) (r w : Value) : (attL a r w).length = 9 := rfl
theorem attsL_len (L : List Att) (H : Nat → Bool → Value) : (attsL L H).length = L.length * 9 := rowsF_len (m := 9) (fun k => attL (L.getD k Att.zero) (H k false) (H k true)) (fun _ => rfl) _
theorem attsL_get {L : List Att} {H : Nat → Bool → Value} {k j : Nat} (hk : k < L.length) (hj : j < 9) : (attsL L H)[k * 9 + j]? = (attL (L.getD k Att.zero) (H k false) (H k true))[j]? := rowsF_get (m := 9) (fun k => attL (L.getD k Att.zero) (H k false) (H k true)) (fun _ => rfl) hj _ hk
theorem attsL_snoc (L : List Att) (H : Nat → Bool → Value) (a : Att) : attsL (L ++ [a]) (fun k b => if k = L.length then .slice none 0 0 else H k b) = attsL L H ++ attL a (.slice none 0 0) (.slice none 0 0) := by
  unfold attsL
  rw [List.length_append, List.length_singleton, List.range_succ, List.flatMap_append]
  congr 1
  · refine rowsF_congr _ _ _ fun i hi => ?_
    dsimp only
    rw [if_neg (by omega), if_neg (by omega), List.getD_eq_getElem?_getD, List.getD_eq_getElem?_getD, List.getElem?_append_left hi]
  · simp
/-- A field of an attempt is turned. -/
theorem attsL_set {L : List Att} {H H' : Nat → Bool → Value} {k j : Nat} {a' : Att} {u : Value} (hk : k < L.length) (hj : j < 9) (hH : ∀ i, i ≠ k → ∀ b, H' i b = H i b)
    (h : (attL (L.getD k Att.zero) (H k false) (H k true)).set j u = attL a' (H' k false) (H' k true)) : (attsL L H).set (k * 9 + j) u = attsL (L.set k a') H' := by
  unfold attsL
  rw [rowsF_set (m := 9) (fun k => attL (L.getD k Att.zero) (H k false) (H k true)) (fun _ => rfl) hj u _ hk, List.length_set]
  refine rowsF_congr _ _ _ fun i hi => ?_
  by_cases he : i = k
  · subst he
    rw [if_pos rfl, getD_set_eq _ _ _ _ hk]; exact h
  · rw [if_neg he, getD_set_ne _ _ _ _ _ (fun e => he e.symm), hH i he, hH i he]
def colB : Bool → Nat
  | false => 7
  | true => 8
def plB (a : Att) (b : Bool) : List (Int × Int) := match b with
  | false => a.reads
  | true => a.writes
/-- The attempts as they lie: vo the attempts' slice, vw the numbers', H the slices of what they read and wrote. -/
structure HistAt (n₀ : Nat) (W : World) (vo vw : Value) (h : HS) (H : Nat → Bool → Value) : Prop where
  lenO : h.owned.length = h.out.length
  out : W.ownsRow n₀ 27 9 vo h.out.length (attsL h.out H)
  own : W.ownsRow n₀ 3 1 vw h.out.length (h.owned.map (.int .i64))
  rows : ∀ k b, k < h.out.length → W.ownsRow n₀ 67 2 (H k b) (plB (h.out.getD k Att.zero) b).length (pairsL (plB (h.out.getD k Att.zero) b))
  sep : ∀ k b k' b' g, k < h.out.length → k' < h.out.length → (k ≠ k' ∨ b ≠ b') → (H k b).ownBlock = some g → (H k' b').ownBlock ≠ some g
/-- Two rows of unlike types are two. -/
theorem rows_ne {W : World} {n₀ e size : Nat} {v : Value} {n : Nat} {xs : List Value} (h : W.ownsRow n₀ e size v n xs) {n₁ e' size' : Nat} {v' : Value} {n' : Nat} {xs' : List Value} (h' : W.ownsRow n₁ e' size' v' n' xs') (he : e ≠ e') : v.ownBlock = none ∨ v.ownBlock ≠ v'.ownBlock := by
  rcases h.2 with ⟨rfl, _⟩ | ⟨g, cap, cur, rfl, _, hg, _⟩
  · exact .inl rfl
  · right
    intro e1
    rcases h'.2 with ⟨rfl, _⟩ | ⟨g', cap', cur', rfl, _, hg', _⟩
    · simp [Value.ownBlock] at e1
    · have e2 : g = g' := by simpa [Value.ownBlock] using e1
      subst e2
      rw [hg] at hg'
      simp at hg'
      exact he hg'.2
theorem blk_ne {W : World} {n₀ e size : Nat} {v : Value} {n : Nat} {xs : List Value} (h : W.ownsRow n₀ e size v n xs) {b : Nat} {cs : Array Value} {t : TypeId} (hb : Blk W b cs t) (he : t ≠ e) : some b ≠ v.ownBlock := by
  intro e1
  rcases h.2 with ⟨rfl, _⟩ | ⟨g, cap, cur, rfl, _, hg, _⟩
  · simp [Value.ownBlock] at e1
  · have e2 : b = g := by simpa [Value.ownBlock] using e1
    subst e2
    unfold Blk at hb
    rw [hb] at hg
    simp at hg
    exact he hg.2
theorem Blk.grown {W W' : World} {b : Nat} {cs : Array Value} {t : TypeId} {row : Option Nat} (h : Blk W b cs t) (hg : W.grownBy W' row) (hne : some b ≠ row) : Blk W' b cs t := by
  unfold Blk at h ⊢
  rw [hg.block b (Array.getElem?_eq_some_iff.1 h).1 hne]; exact h
theorem HistAt.kept {n₀ : Nat} {W W' : World} {vo vw : Value} {h : HS} {H : Nat → Bool → Value} (hh : HistAt n₀ W vo vw h H) {row : Option Nat} (hg : W.grownBy W' row)
    (h1 : vo.ownBlock = none ∨ vo.ownBlock ≠ row) (h2 : vw.ownBlock = none ∨ vw.ownBlock ≠ row) (h3 : ∀ k b, k < h.out.length → (H k b).ownBlock = none ∨ (H k b).ownBlock ≠ row) : HistAt n₀ W' vo vw h H :=
  ⟨hh.lenO, hh.out.kept hg h1, hh.own.kept hg h2, fun k b hk => (hh.rows k b hk).kept hg (h3 k b hk), hh.sep⟩
theorem HistAt.calm {n₀ : Nat} {W W' : World} {vo vw : Value} {h : HS} {H : Nat → Bool → Value} (hh : HistAt n₀ W vo vw h H) (hg : W.grownBy W' none) : HistAt n₀ W' vo vw h H :=
  hh.kept hg (by cases vo.ownBlock <;> simp) (by cases vw.ownBlock <;> simp) (fun k b _ => by cases (H k b).ownBlock <;> simp)
theorem HistAt.drew0 {n₀ : Nat} {W : World} {vo vw : Value} {h : HS} {H : Nat → Bool → Value} (hh : HistAt n₀ W vo vw h H) : HistAt n₀ W.drew vo vw h H := hh.calm ⟨rfl, rfl, rfl, Nat.le_refl _, fun _ _ _ => rfl⟩
/-- A block of another type is turned. -/
theorem HistAt.other {n₀ : Nat} {W W' : World} {vo vw : Value} {h : HS} {H : Nat → Bool → Value} (hh : HistAt n₀ W vo vw h H) {b : Nat} {cs : Array Value} {t : TypeId} (hb : Blk W b cs t) (hg : W.grownBy W' (some b)) (h1 : t ≠ 27) (h2 : t ≠ 3) (h3 : t ≠ 67) : HistAt n₀ W' vo vw h H :=
  hh.kept hg (.inr (fun e => blk_ne hh.out hb h1 e.symm)) (.inr (fun e => blk_ne hh.own hb h2 e.symm)) (fun k c hk => .inr (fun e => blk_ne (hh.rows k c hk) hb h3 e.symm))
/-- What is no cells is turned. -/
theorem HistAt.noCells {n₀ : Nat} {W W' : World} {vo vw : Value} {h : HS} {H : Nat → Bool → Value} (hh : HistAt n₀ W vo vw h H) {row : Option Nat} (hg : W.grownBy W' row) (hr : ∀ r, row = some r → ∃ o : Obj, W.heap[r]? = some o ∧ o.isCells = false) : HistAt n₀ W' vo vw h H := by
  have K : ∀ {e size : Nat} {v : Value} {n : Nat} {xs : List Value}, W.ownsRow n₀ e size v n xs → v.ownBlock = none ∨ v.ownBlock ≠ row := by
    intro e size v n xs hv
    rcases hv.2 with ⟨rfl, _⟩ | ⟨g, cap, cur, rfl, _, hgb, _⟩
    · exact .inl rfl
    · refine .inr fun e' => ?_
      obtain ⟨o, ho, hc⟩ := hr g (by simpa [Value.ownBlock] using e'.symm)
      rw [hgb] at ho; cases ho; cases hc
  exact hh.kept hg (K hh.out) (K hh.own) (fun k b hk => K (hh.rows k b hk))
theorem HistAt.new (n₀ : Nat) (W : World) : HistAt n₀ W (.slice none 0 0) (.slice none 0 0) newH (fun _ _ => .slice none 0 0) :=
  ⟨rfl, World.ownsRow_nil _ _ _ _, World.ownsRow_nil _ _ _ _, fun k b hk => absurd hk (Nat.not_lt_zero _), fun k b k' b' g hk => absurd hk (Nat.not_lt_zero _)⟩
/-- What a step of the walk keeps: what is no cells, and what lay below. -/
def KO (n₀ : Nat) (W W' : World) : Prop := KeepsOthers W W' ∧ Below n₀ W W'
theorem KO.refl (n₀ : Nat) (W : World) : KO n₀ W W := ⟨KeepsOthers.refl _, Below.refl _ _⟩
theorem KO.alloc {n₀ : Nat} {A W : World} (h : KO n₀ A W) (hn : n₀ ≤ A.heap.size) (o : Obj) : KO n₀ A (W.alloc o) := ⟨h.1.trans (KeepsOthers.alloc _ _), h.2.alloc (Nat.le_trans hn h.2.size) _⟩
theorem KO.drew {n₀ : Nat} {A W : World} (h : KO n₀ A W) : KO n₀ A W.drew := ⟨⟨h.1.size, h.1.same⟩, h.2.drew⟩
theorem KO.set {n₀ : Nat} {A W : World} (h : KO n₀ A W) {b o : Nat} (hb : n₀ ≤ b) (v : Value) : KO n₀ A (W.setCell ⟨b, o, none⟩ v) := ⟨h.1.trans (KeepsOthers.setCell _ _ _), h.2.setCell (p := ⟨b, o, none⟩) hb v⟩
theorem KO.grow {n₀ : Nat} {A W W' : World} (h : KO n₀ A W) (hn : n₀ ≤ A.heap.size) {e size n : Nat} {v : Value} {xs : List Value} (hown : W.ownsRow n₀ e size v n xs) (hg : W.grownBy W' v.ownBlock) : KO n₀ A W' := by
  refine ⟨h.1.trans (KeepsOthers.of_grownBy hg fun j o ej hj => ?_), h.2.grown hg (Nat.le_trans hn h.2.size) fun j ej => ?_⟩
  · rcases hown.2 with ⟨rfl, _⟩ | ⟨g, cap, cur, rfl, _, hgb, _⟩
    · simp [Value.ownBlock] at ej
    · obtain rfl : g = j := by simpa [Value.ownBlock] using ej
      rw [hgb] at hj; cases hj; rfl
  · rcases hown.2 with ⟨rfl, _⟩ | ⟨g, cap, cur, rfl, hb, _, _⟩
    · simp [Value.ownBlock] at ej
    · obtain rfl : g = j := by simpa [Value.ownBlock] using ej
      exact hb
theorem grownBy_set (W : World) (b o : Nat) (v : Value) : W.grownBy (W.setCell ⟨b, o, none⟩ v) (some b) :=
  ⟨rfl, rfl, rfl, (KeepsWalks.setCell W _ v).size, fun k _ hk => Below.heap_setCell _ _ _ k (fun e => hk (by rw [e]))⟩
theorem Blk.grow {n₀ : Nat} {W W' : World} {b : Nat} {cs : Array Value} {t : TypeId} (h : Blk W b cs t) {e size n : Nat} {v : Value} {xs : List Value} (hown : W.ownsRow n₀ e size v n xs) (hg : W.grownBy W' v.ownBlock) (he : t ≠ e) : Blk W' b cs t := h.grown hg (blk_ne hown h he)
theorem row_set {n₀ : Nat} {W : World} {e size n : Nat} {v : Value} {xs : List Value} (hown : W.ownsRow n₀ e size v n xs) {b : Nat} {cs : Array Value} {t : TypeId} (h : Blk W b cs t) (he : t ≠ e) (o : Nat) (u : Value) : (W.setCell ⟨b, o, none⟩ u).ownsRow n₀ e size v n xs := hown.kept (grownBy_set W b o u) (.inr fun x => blk_ne hown h he x.symm)
theorem row_grow {n₀ : Nat} {W W' : World} {e size n : Nat} {v : Value} {xs : List Value} (hown : W.ownsRow n₀ e size v n xs) {e' size' n' : Nat} {v' : Value} {xs' : List Value} (hown' : W.ownsRow n₀ e' size' v' n' xs') (hg : W.grownBy W' v'.ownBlock) (he : e ≠ e') : W'.ownsRow n₀ e size v n xs := hown.kept hg (rows_ne hown hown' he)
theorem HistAt.as {n₀ : Nat} {W : World} {vo vw : Value} {h h' : HS} {H : Nat → Bool → Value} (hh : HistAt n₀ W vo vw h H) (h1 : h.out = h'.out) (h2 : h.owned = h'.owned) : HistAt n₀ W vo vw h' H :=
  ⟨by rw [← h1, ← h2]; exact hh.lenO, by rw [← h1]; exact hh.out, by rw [← h1, ← h2]; exact hh.own, by rw [← h1]; exact hh.rows, by rw [← h1]; exact hh.sep⟩
theorem set_same {α : Type} {l : List α} {k : Nat} {x : α} (h : l[k]? = some x) : l.set k x = l := by
  obtain ⟨hk, rfl⟩ := List.getElem?_eq_some_iff.1 h
  exact List.set_getElem_self hk
theorem own_slice {W : World} {n₀ e size n : Nat} {v : Value} {xs : List Value} (h : W.ownsRow n₀ e size v n xs) (hn : 0 < n) : ∃ g c, v = .slice (some ⟨g, 0, none⟩) n c ∧ n₀ ≤ g ∧ g < W.heap.size := by
  rcases h.2 with ⟨_, h0⟩ | ⟨g, cap, cur, rfl, hb, hg, _⟩
  · omega
  · exact ⟨g, cap, rfl, hb, (Array.getElem?_eq_some_iff.1 hg).1⟩
/-- A Begin: the attempts grow by one. -/
theorem HistAt.begun {n₀ : Nat} {W W2 : World} {vo vw vo' vw' : Value} {h : HS} {H : Nat → Bool → Value} (hh : HistAt n₀ W vo vw h H) {e : Ev} {i : Int} (k1 : e.kind = 1)
    (ho : W2.ownsRow n₀ 27 9 vo' (h.out.length + 1) (attsL h.out H ++ attL (newA e i) (.slice none 0 0) (.slice none 0 0)))
    (hw : W2.ownsRow n₀ 3 1 vw' (h.out.length + 1) (h.owned.map (.int .i64) ++ [.int .i64 0]))
    (hp : ∀ v n xs, W.ownsRow n₀ 67 2 v n xs → W2.ownsRow n₀ 67 2 v n xs) :
    HistAt n₀ W2 vo' vw' (stepH h i e) (fun k b => if k = h.out.length then .slice none 0 0 else H k b) := by
  have hs : stepH h i e = ⟨updN h.last e.th h.out.length, h.out ++ [newA e i], h.owned ++ [0]⟩ := by unfold stepH; rw [if_pos k1]
  rw [hs]
  refine ⟨by simp [hh.lenO], ?_, ?_, fun k b hk => ?_, fun k b k' b' g hk hk' hne hb => ?_⟩
  · show W2.ownsRow n₀ _ 9 vo' (h.out ++ [newA e i]).length (attsL (h.out ++ [newA e i]) _)
    rw [attsL_snoc, List.length_append, List.length_singleton]
    exact ho
  · show W2.ownsRow n₀ _ 1 vw' (h.out ++ [newA e i]).length ((h.owned ++ [0]).map _)
    rw [List.length_append, List.length_singleton, List.map_append]
    exact hw
  · have hk' : k < h.out.length + 1 := by simpa using hk
    show W2.ownsRow n₀ _ 2 (if k = h.out.length then _ else H k b) (plB ((h.out ++ [newA e i]).getD k Att.zero) b).length _
    by_cases he : k = h.out.length
    · subst he
      rw [if_pos rfl]
      have : (h.out ++ [newA e i]).getD h.out.length Att.zero = newA e i := by simp [List.getD_eq_getElem?_getD]
      rw [this]
      cases b <;> exact World.ownsRow_nil _ _ _ _
    · have hlt : k < h.out.length := by omega
      rw [if_neg he]
      have : (h.out ++ [newA e i]).getD k Att.zero = h.out.getD k Att.zero := by rw [List.getD_eq_getElem?_getD, List.getElem?_append_left hlt, ← List.getD_eq_getElem?_getD]
      rw [this]
      exact hp _ _ _ (hh.rows k b hlt)
  · have e1 : k < h.out.length + 1 := by simpa using hk
    have e2 : k' < h.out.length + 1 := by simpa using hk'
    by_cases he : k = h.out.length
    · rw [if_pos he] at hb; simp [Value.ownBlock] at hb
    · rw [if_neg he] at hb
      by_cases he' : k' = h.out.length
      · rw [if_pos he']; simp [Value.ownBlock]
      · rw [if_neg he']
        exact hh.sep k b k' b' g (by omega) (by omega) hne hb
/-- A field that is no slice is stored. -/
theorem HistAt.field {n₀ : Nat} {W : World} {g cap : Nat} {vw : Value} {h : HS} {H : Nat → Bool → Value} (hh : HistAt n₀ W (.slice (some ⟨g, 0, none⟩) h.out.length cap) vw h H) {k j : Nat} {a' : Att} {u : Value} (hk : k < h.out.length) (hj : j < 9)
    (hu : (attL (h.out.getD k Att.zero) (H k false) (H k true)).set j u = attL a' (H k false) (H k true)) (hp : ∀ b, plB a' b = plB (h.out.getD k Att.zero) b) :
    HistAt n₀ (W.setCell ⟨g, k * 9 + j, none⟩ u) (.slice (some ⟨g, 0, none⟩) h.out.length cap) vw ⟨h.last, h.out.set k a', h.owned⟩ H ∧ W.grownBy (W.setCell ⟨g, k * 9 + j, none⟩ u) (some g) := by
  obtain ⟨h1, h2⟩ := hh.out.stored (k * 9 + j) u
  rw [attsL_set hk hj (H' := H) (fun _ _ _ => rfl) hu] at h1
  refine ⟨⟨by rw [List.length_set]; exact hh.lenO, by rw [List.length_set]; exact h1, ?_, fun i b hi => ?_, fun i b i' b' q hi hi' => hh.sep i b i' b' q (by simpa using hi) (by simpa using hi')⟩, h2⟩
  · rw [List.length_set]; exact hh.own.kept h2 (rows_ne hh.own hh.out (by decide))
  · have hi' : i < h.out.length := by simpa using hi
    have : plB ((h.out.set k a').getD i Att.zero) b = plB (h.out.getD i Att.zero) b := by
      by_cases he : k = i
      · subst he; rw [getD_set_eq _ _ _ _ hk, hp b]
      · rw [getD_set_ne _ _ _ _ _ he]
    show (W.setCell ⟨g, k * 9 + j, none⟩ u).ownsRow n₀ _ 2 (H i b) (plB ((h.out.set k a').getD i Att.zero) b).length (pairsL (plB ((h.out.set k a').getD i Att.zero) b))
    rw [this]
    exact (hh.rows i b hi').kept h2 (rows_ne (hh.rows i b hi') hh.out (by decide))
/-- A number of locks is stored. -/
theorem HistAt.count {n₀ : Nat} {W : World} {g cap : Nat} {vo : Value} {h : HS} {H : Nat → Bool → Value} (hh : HistAt n₀ W vo (.slice (some ⟨g, 0, none⟩) h.out.length cap) h H) {k : Nat} (o : Int) :
    HistAt n₀ (W.setCell ⟨g, k, none⟩ (.int .i64 o)) vo (.slice (some ⟨g, 0, none⟩) h.out.length cap) ⟨h.last, h.out, h.owned.set k o⟩ H ∧ W.grownBy (W.setCell ⟨g, k, none⟩ (.int .i64 o)) (some g) := by
  obtain ⟨h1, h2⟩ := hh.own.stored k (.int .i64 o)
  rw [← List.map_set] at h1
  exact ⟨⟨by rw [List.length_set]; exact hh.lenO, hh.out.kept h2 (rows_ne hh.out hh.own (by decide)), h1, fun i b hi => (hh.rows i b hi).kept h2 (rows_ne (hh.rows i b hi) hh.own (by decide)), hh.sep⟩, h2⟩
/-- What was read, or written, grows: behind the append, and the store of the slice. -/
theorem HistAt.pair {n₀ : Nat} {W W1 : World} {g cap : Nat} {vw v' : Value} {h : HS} {H : Nat → Bool → Value} (hh : HistAt n₀ W (.slice (some ⟨g, 0, none⟩) h.out.length cap) vw h H) {k : Nat} {b : Bool} {p : Int × Int} {a' : Att} (hk : k < h.out.length)
    (ho : W1.ownsRow n₀ 67 2 v' ((plB (h.out.getD k Att.zero) b).length + 1) (pairsL (plB (h.out.getD k Att.zero) b) ++ [.int .i64 p.1, .int .i64 p.2])) (hg : W.grownBy W1 (H k b).ownBlock) (hb : v'.ownBlock = (H k b).ownBlock ∨ ∃ q, v'.ownBlock = some q ∧ W.heap.size ≤ q)
    (ha : (attL (h.out.getD k Att.zero) (H k false) (H k true)).set (colB b) v' = attL a' (if b then H k false else v') (if b then v' else H k true)) (hp : plB a' b = plB (h.out.getD k Att.zero) b ++ [p]) (hp' : plB a' (!b) = plB (h.out.getD k Att.zero) (!b)) :
    HistAt n₀ (W1.setCell ⟨g, k * 9 + colB b, none⟩ v') (.slice (some ⟨g, 0, none⟩) h.out.length cap) vw ⟨h.last, h.out.set k a', h.owned⟩ (fun i c => if i = k ∧ c = b then v' else H i c) ∧ W1.grownBy (W1.setCell ⟨g, k * 9 + colB b, none⟩ v') (some g) := by
  have hout1 := hh.out.kept hg (rows_ne hh.out (hh.rows k b hk) (by decide))
  have hown1 := hh.own.kept hg (rows_ne hh.own (hh.rows k b hk) (by decide))
  obtain ⟨h1, h2⟩ := hout1.stored (k * 9 + colB b) v'
  have hfresh : ∀ i c, i < h.out.length → (i ≠ k ∨ c ≠ b) → (H i c).ownBlock = none ∨ (H i c).ownBlock ≠ (H k b).ownBlock := by
    intro i c hi hne
    cases hx : (H i c).ownBlock with
    | none => exact .inl rfl
    | some q => exact .inr (fun e => hh.sep i c k b q hi hk hne hx e.symm)
  have hlow : ∀ i c q, i < h.out.length → (H i c).ownBlock = some q → q < W.heap.size := fun i c q hi hq => ((hh.rows i c hi).lt q hq).2
  rw [attsL_set (H' := fun i c => if i = k ∧ c = b then v' else H i c) (a' := a') hk (by cases b <;> decide) (fun i hi c => by simp [hi]) (by rw [ha]; cases b <;> simp)] at h1
  refine ⟨⟨by rw [List.length_set]; exact hh.lenO, by rw [List.length_set]; exact h1, ?_, fun i c hi => ?_, fun i c i' c' q hi hi' hne hq => ?_⟩, h2⟩
  · rw [List.length_set]; exact hown1.kept h2 (rows_ne hown1 hout1 (by decide))
  · have hi' : i < h.out.length := by simpa using hi
    show (W1.setCell ⟨g, k * 9 + colB b, none⟩ v').ownsRow n₀ _ 2 (if i = k ∧ c = b then v' else H i c) (plB ((h.out.set k a').getD i Att.zero) c).length (pairsL (plB ((h.out.set k a').getD i Att.zero) c))
    by_cases he : i = k
    · subst he
      rw [getD_set_eq _ _ _ _ hk]
      by_cases hc : c = b
      · subst hc
        rw [if_pos ⟨rfl, rfl⟩, hp, pairsL_snoc, List.length_append, List.length_singleton]
        exact ho.kept h2 (rows_ne ho hout1 (by decide))
      · rw [if_neg (fun e => hc e.2)]
        have hcb : c = !b := by cases b <;> cases c <;> simp_all
        rw [hcb, hp', ← hcb]
        have := (hh.rows i c hk).kept hg (hfresh i c hk (.inr hc))
        exact this.kept h2 (rows_ne this hout1 (by decide))
    · rw [if_neg (fun e => he e.1), getD_set_ne _ _ _ _ _ (fun e => he e.symm)]
      have := (hh.rows i c hi').kept hg (hfresh i c hi' (.inl he))
      exact this.kept h2 (rows_ne this hout1 (by decide))
  · have hi1 : i < h.out.length := by simpa using hi
    have hi2 : i' < h.out.length := by simpa using hi'
    by_cases e1 : i = k ∧ c = b
    · rw [if_pos e1] at hq
      have e2 : ¬ (i' = k ∧ c' = b) := by rintro ⟨x1, x2⟩; rcases hne with h | h; exact h (e1.1.trans x1.symm); exact h (e1.2.trans x2.symm)
      rw [if_neg e2]
      rcases hb with hb | ⟨q', hb, hq'⟩
      · rw [hb] at hq
        exact hh.sep k b i' c' q hk hi2 (by rcases hne with h | h; exact .inl (by rw [← e1.1]; exact h); exact .inr (by rw [← e1.2]; exact h)) hq
      · rw [hb] at hq
        cases hq
        intro e3
        have := hlow i' c' _ hi2 e3
        omega
    · rw [if_neg e1] at hq
      by_cases e2 : i' = k ∧ c' = b
      · rw [if_pos e2]
        intro e3
        rcases hb with hb | ⟨q', hb, hq'⟩
        · rw [hb] at e3
          exact hh.sep i c k b q hi1 hk (by rcases hne with h | h; exact .inl (by rw [← e2.1]; exact h); exact .inr (by rw [← e2.2]; exact h)) hq e3
        · rw [hb] at e3
          cases e3
          have := hlow i c _ hi1 hq
          omega
      · rw [if_neg e2]
        exact hh.sep i c i' c' q hi1 hi2 hne hq
end Go.Proofs.YtnmbacleaijhmaaDoor
/-
  Walk: history.Of.
-/
namespace Go.Proofs.YtnmbacleaijhmaaDoor
set_option linter.unusedVariables false
set_option linter.unusedSimpArgs false
set_option linter.unusedVariables false
open Go Go.RowKit Go.Shelf
attribute [local go_sem] Oper.semAt_some
theorem infoAtt : (Tryd.prog.info? 27).map (fun i => (i.zero, i.size, i.bytes)) = some (some (.agg #[.int .i64 0, .int .i64 0, .int .i64 0, .int .i64 0, .int .i64 0, .int .i64 0, .bool false, .slice none 0 0, .slice none 0 0]), 9, 104) := by kernel_rfl
theorem infoPair : (Tryd.prog.info? 67).map (fun i => (i.zero, i.size, i.bytes)) = some (some (.agg #[.int .i64 0, .int .i64 0]), 2, 16) := by kernel_rfl
/-- The attempts in memory. -/
def AttsAt (W : World) (n₀ : Nat) (v : Value) (L : List Att) : Prop := ∃ H, W.ownsRow n₀ 27 9 v L.length (attsL L H) ∧ (∀ k b, k < L.length → W.ownsRow n₀ 67 2 (H k b) (plB (L.getD k Att.zero) b).length (pairsL (plB (L.getD k Att.zero) b)))
/-- What holds while Of goes over the events: B the block of the attempts' slice. -/
def OfI (T V S : Int) (a : Option Addr) (l : List Ev) (cap : Nat) (w : World) (B : Nat) (h : HS) (W : World) : Prop :=
  (∃ vo vw H, Blk W B #[vo] 23 ∧ Blk W (B + 1) #[vw] 29 ∧ HistAt w.heap.size W vo vw h H) ∧ Blk W w.heap.size #[.int .i64 T, .int .i64 V, .int .i64 S, .slice a l.length cap] 36 ∧ Below w.heap.size w W
/-- What Of comes to. -/
def OfP (T V S : Int) (l : List Ev) (w : World) (e : Ending) (w' : World) : Prop :=
  ∃ v, e = .returned (.tuple #[v, .int .i64 (checkT T V S l).2]) ∧ Below w.heap.size w w' ∧ AttsAt w' w.heap.size v (if (checkT T V S l).2 = 0 then (histT l).out else [])
set_option maxRecDepth 100000 in
set_option maxHeartbeats 4000000 in
theorem of_no (T V S : Int) (a : Option Addr) (l : List Ev) (cap : Nat) (w : World) (hE : EvsAt w a l) (hK : KindsAt w) (hT : TabOk w) (hc : (checkT T V S l).2 ≠ 0) :
    Calls Tryd.prog 13 #[trA T V S a l.length cap] w (OfP T V S l w) := by
  obtain ⟨W1, hW1⟩ : ∃ W1, W1 = w.alloc (.cells #[.int .i64 T, .int .i64 V, .int .i64 S, .slice a l.length cap] 36) := ⟨_, rfl⟩
  have hB1 : Below w.heap.size w W1 := by rw [hW1]; exact ext_alloc (ext_refl _) _
  have HC := hid (check_all T V S a l cap W1 (hE.below hB1) (hK.below hB1) (hT.below hB1))
  have HP : ∀ W', Below W1.heap.size W1 W' → OfP T V S l w (.returned (.tuple #[.slice none 0 0, .int .i64 (checkT T V S l).2])) W' := fun W' hb => ⟨_, rfl, ext_trans hB1 hb, by rw [if_neg hc]; exact ⟨fun _ _ => .slice none 0 0, World.ownsRow_nil _ _ _ _, fun k b hk => absurd hk (Nat.not_lt_zero _)⟩⟩
  have HP := hid HP
  obtain ⟨Q, hQ⟩ : ∃ Q, Q = OfP T V S l w := ⟨_, rfl⟩
  rw [← hQ] at HP ⊢
  obtain ⟨p, q, hpq⟩ : ∃ p q, checkT T V S l = (p, q) := ⟨_, _, rfl⟩
  rw [hpq] at HC HP hc
  dsimp only at HC HP hc
  have g1 : (q == 0) = false := beq_eq_false_iff_ne.2 hc
  have g2 : (q != 0) = true := bne_iff_ne.2 hc
  dsimp only [trA] at HC ⊢
  have HW1 := hid hW1
  clear hE hK hT hc hQ hW1 hB1 hpq
  go_enter Tryd.func13, Tryd.ntmps13
  go_wp2_with fail
  rw [← HW1.out]
  refine HC.out.mono ?_
  rintro e' w2 ⟨rfl, hb2⟩
  go_wp2_with fail
  exact HP.out _ hb2
theorem turn_pairs (a : Att) (o : Int) (e : Ev) (i : Int) : (turnA a o e i).reads.length ≤ a.reads.length + 1 ∧ (turnA a o e i).writes.length ≤ a.writes.length + 1 := by
  unfold turnA
  split
  · simp
  · split
    · simp
    · split
      · simp
      · split
        · simp
        · split
          · simp
          · split <;> simp
theorem hist_pairs : ∀ (l : List Ev) (h : HS) (i : Int) (n : Nat), (∀ q ∈ h.out, q.reads.length ≤ n ∧ q.writes.length ≤ n) → ∀ q ∈ (histF h i l).out, q.reads.length ≤ n + l.length ∧ q.writes.length ≤ n + l.length
  | [], h, i, n, hn, q, hq => hn q hq
  | e :: l, h, i, n, hn, q, hq => by
    have h1 : ∀ q ∈ (stepH h i e).out, q.reads.length ≤ n + 1 ∧ q.writes.length ≤ n + 1 := by
      intro q hq
      unfold stepH at hq
      split at hq
      · rcases List.mem_append.1 hq with hq | hq
        · have := hn q hq; omega
        · rw [List.mem_singleton] at hq; subst hq; exact ⟨Nat.zero_le _, Nat.zero_le _⟩
      · split at hq
        · have := hn q hq; omega
        · rcases List.mem_or_eq_of_mem_set hq with hq | rfl
          · have := hn q hq; omega
          · have h2 := turn_pairs (h.out.getD (h.last e.th) Att.zero) (h.owned.getD (h.last e.th) 0) e i
            have h3 : (h.out.getD (h.last e.th) Att.zero).reads.length ≤ n ∧ (h.out.getD (h.last e.th) Att.zero).writes.length ≤ n := by
              rw [List.getD_eq_getElem?_getD]
              cases hg : h.out[h.last e.th]? with
              | none => exact ⟨Nat.zero_le _, Nat.zero_le _⟩
              | some a => exact hn a (List.mem_of_getElem? hg)
            omega
    have := hist_pairs l (stepH h i e) (i + 1) (n + 1) h1 q hq
    simp only [List.length_cons]
    omega
set_option maxRecDepth 100000 in
set_option maxHeartbeats 4000000 in
theorem of_ok (T V S : Int) (a : Option Addr) (l : List Ev) (cap : Nat) (w : World) (hE : EvsAt w a l) (hK : KindsAt w) (hT : TabOk w) (hc : (checkT T V S l).2 = 0) :
    Calls Tryd.prog 13 #[trA T V S a l.length cap] w (OfP T V S l w) := by
  obtain ⟨W1, hW1⟩ : ∃ W1, W1 = w.alloc (.cells #[.int .i64 T, .int .i64 V, .int .i64 S, .slice a l.length cap] 36) := ⟨_, rfl⟩
  have hB1 : Below w.heap.size w W1 := by rw [hW1]; exact ext_alloc (ext_refl _) _
  have hbx : Blk W1 w.heap.size #[.int .i64 T, .int .i64 V, .int .i64 S, .slice a l.length cap] 36 := by rw [hW1]; exact Blk.new _ _ _
  have HC := hid (check_all T V S a l cap W1 (hE.below hB1) (hK.below hB1) (hT.below hB1))
  have HP : ∀ v W', Below w.heap.size w W' → AttsAt W' w.heap.size v (histT l).out → OfP T V S l w (.returned (.tuple #[v, .int .i64 0])) W' := fun v W' hb ho => ⟨v, by rw [hc], hb, by rw [if_pos hc]; exact ho⟩
  have HP := hid HP
  obtain ⟨Q, hQ⟩ : ∃ Q, Q = OfP T V S l w := ⟨_, rfl⟩
  rw [← hQ] at HP ⊢
  obtain ⟨hsz0, hlen, sF, hHist⟩ := checkT_fine hc
  obtain ⟨p, q, hpq⟩ : ∃ p q, checkT T V S l = (p, q) := ⟨_, _, rfl⟩
  rw [hpq] at HC hc
  dsimp only at HC hc
  subst hc
  dsimp only [trA] at HC ⊢
  have HW1 := hid hW1
  have HB1 := hid hB1
  have HE := hid hE
  have HL := hid hlen
  have HX := hid hbx
  have HH := hid hHist
  have HEV := hid (events_any T V S a l.length cap)
  dsimp only [trA] at HEV
  clear hE hK hT hQ hW1 hB1 hpq hlen hbx hHist hsz0
  refine (callsIn_wide (n := 3)).1 ?_
  refine callsIn_of_wp_marks Tryd.func13 rfl trivial ?_ rfl
  simp only [Tryd.ntmps13, List.size_toArray, List.length_cons, List.length_nil, Nat.reduceAdd, Nat.reduceSub, Array.replicate_succ, Array.replicate_zero, List.push_toArray, List.append_toArray, List.nil_append, List.cons_append]
  gi_wp2_with (first
    | (refine ⟨trivial, ?_⟩; gi_at_call 14; rw [← HW1.out]; refine (callsIn_wide.2 HC.out).mono ?_; rintro e' w2 ⟨rfl, hb2⟩; have hx2 := ((HX.out.below hb2).alloc (.cells #[.slice none 0 0] 23)).alloc (.cells #[.slice none 0 0] 29); have x0 := hx2.cell 0 (v := .int .i64 T) rfl; have x1 := hx2.cell 1 (v := .int .i64 V) rfl; have x2 := hx2.cell 2 (v := .int .i64 S) rfl; have x3 := hx2.cell 3 (v := .slice a l.length cap) rfl)
    | (refine ⟨trivial, ?_⟩; gi_at_call 26; refine (callsIn_wide.2 (HEV.out _)).mono ?_; rintro e' w3 ⟨rfl, rfl⟩))
  obtain ⟨W2, hW2⟩ : ∃ W2, W2 = ((w2.alloc (.cells #[.slice none 0 0] 23)).alloc (.cells #[.slice none 0 0] 29)).alloc (.cells #[.int .i64 T, .int .i64 V, .int .i64 S, .slice a l.length cap] 36) := ⟨_, rfl⟩
  have hB2 : Below w2.heap.size w2 W2 := by rw [hW2]; exact ext_alloc (ext_alloc (ext_alloc (ext_refl _) _) _) _
  have hBw2 : Below w.heap.size w w2 := ext_trans HB1.out hb2
  have hBw : Below w.heap.size w W2 := ext_trans hBw2 hB2
  have hsz : W2.heap.size = w2.heap.size + 3 := by rw [hW2, World.size_alloc, World.size_alloc, World.size_alloc]
  have bx6 : Blk W2 w2.heap.size #[.slice none 0 0] 23 := by rw [hW2]; exact ((Blk.new _ _ _).alloc _).alloc _
  have bx7 : Blk W2 (w2.heap.size + 1) #[.slice none 0 0] 29 := by rw [hW2]; exact (Blk.new' _ _ _ (World.size_alloc _ _).symm).alloc _
  have bxt : Blk W2 (w2.heap.size + 1 + 1) #[.int .i64 T, .int .i64 V, .int .i64 S, .slice a l.length cap] 36 := by rw [hW2]; exact Blk.new' _ _ _ (by rw [World.size_alloc, World.size_alloc])
  have bx1 : Blk W2 w.heap.size #[.int .i64 T, .int .i64 V, .int .i64 S, .slice a l.length cap] 36 := by rw [hW2]; exact hx2.alloc _
  have hEW := HE.out.below hBw
  have hEb := evs_lt HE.out
  have hle2 : w.heap.size < w2.heap.size := Nat.lt_of_lt_of_le HX.out.lt hb2.size
  rw [← hW2]
  have HR := hid (events_runs 2 w.heap.size (by omega) (w2.heap.size + 1 + 1) T V S a l cap HL.out W2 hBw.size (bxt.cell 3 rfl) hEW hEb)
  have HBW := hid hBw
  have HSZ := hid (And.intro hsz hle2)
  have HEB := hid hEb
  obtain ⟨i3, hi3, hy0, hy1, hy2⟩ := info_parts infoInt
  obtain ⟨i9, hi9, hz0, hz1, hz2⟩ := info_parts infoAtt
  obtain ⟨iP, hiP, hp0, hp1, hp2⟩ := info_parts infoPair
  clear hEW hEb hB2 hBw2 hBw x0 x1 x2 x3 hx2 hW2 hle2 hsz HC HEV hb2
  apply wpIn_range_runs (encs := fun k => #[.int .i64 (k : Int), .int .i64 (ofI l k)]) (Kp := KeepBW w.heap.size) (N := l.length) (w0 := W2) rfl (by omega) (gf := 37) (lb := #[.pointer (some ⟨w2.heap.size + 1 + 1, 0, none⟩)]) rfl trivial (enters_of Tryd.func37 (by kernel_rfl) rfl) HR.out keepBW_t (keepBW_b HBW.out.size) (Below.refl _ _) (fun _ => rfl)
    (fun k W => OfI T V S a l cap w w2.heap.size (histT (l.take k)) W)
    (by
      rintro k A B row ⟨⟨vo, vw, H, h1, h2, h3⟩, h4, h5⟩ hg hr
      have hr' : ∀ r, row = some r → ∃ o : Obj, A.heap[r]? = some o ∧ o.isCells = false := fun r e => (hr r e).2
      have kb : ∀ {b : Nat} {cs : Array Value} {t : TypeId}, Blk A b cs t → Blk B b cs t := by
        intro b cs t hb
        refine hb.grown hg (fun e => ?_)
        obtain ⟨o, ho, hc⟩ := hr' b e.symm
        unfold Blk at hb
        rw [hb] at ho; cases ho; cases hc
      exact ⟨⟨vo, vw, H, kb h1, kb h2, h3.noCells hg hr'⟩, kb h4, (ownFrom_below (β := Unit) (Nat.le_refl _) HBW.out.size) () A B row h5 hg hr⟩)
    ⟨⟨_, _, _, bx6, bx7, HistAt.new _ _⟩, bx1, HBW.out⟩
  case hassign =>
    intro lp k W K hK
    gi_wp2
    exact hK
  case hbody =>
    rintro lp k W ⟨⟨vo, vw, H, h6, h7, hh⟩, h1, hB⟩ hk
    obtain ⟨b, o, rfl, hcell⟩ := HE.out.2 (by intro h; rw [h] at hk; simp at hk)
    have hbn := HEB.out b o rfl (by intro h; rw [h] at hk; simp at hk)
    obtain ⟨r, r', hr, hs, hr'⟩ := HH.out.step hk
    have hI := hr.hi
    rw [show ((l.take k).length : Int) = k by rw [List.length_take, Nat.min_eq_left (Nat.le_of_lt hk)]] at hI
    have hmid := hi_mid hr.wf hI hs
    have hmo := hi_mo hr.wf hI hs
    have hkd : 1 ≤ l[k].kind ∧ l[k].kind ≤ 13 := (stepS_inv hr.wf hs).choose_spec.2.2.2.2.1
    have hlenR : ∀ q ∈ (histT (l.take k)).out, q.reads.length ≤ k ∧ q.writes.length ≤ k := by
      have := hist_pairs (l.take k) newH 0 0 (fun q hq => absurd hq (List.not_mem_nil))
      rw [List.length_take, Nat.min_eq_left (Nat.le_of_lt hk), Nat.zero_add] at this
      exact this
    have hwf := hr.wf
    have hof := ofI_eq hk
    have hst := histT_step hk
    have hole : (histT (l.take k)).out.length ≤ k := by
      have := hist_len (l.take k) newH 0
      rw [List.length_take, Nat.min_eq_left (Nat.le_of_lt hk)] at this
      show (histF newH 0 (l.take k)).out.length ≤ k
      have h0 : newH.out.length = 0 := rfl
      omega
    rw [hst]
    obtain ⟨h, hh0⟩ : ∃ h, h = histT (l.take k) := ⟨_, rfl⟩
    rw [← hh0] at hh hof hst hole hmid hmo hlenR ⊢
    rcases hek : l[k] with ⟨kind, th, tx, at_, v, x, why⟩
    have e0 := (hB.cell (p := ⟨b, o + k * 7 + 0, none⟩) hbn).trans (hcell k hk 0 (.int .u8 kind) (by rw [hek]; rfl))
    have e1 := (hB.cell (p := ⟨b, o + k * 7 + 1, none⟩) hbn).trans (hcell k hk 1 (.int .i64 th) (by rw [hek]; rfl))
    have e2 := (hB.cell (p := ⟨b, o + k * 7 + 2, none⟩) hbn).trans (hcell k hk 2 (.int .i64 tx) (by rw [hek]; rfl))
    have e3 := (hB.cell (p := ⟨b, o + k * 7 + 3, none⟩) hbn).trans (hcell k hk 3 (.int .i64 at_) (by rw [hek]; rfl))
    have e4 := (hB.cell (p := ⟨b, o + k * 7 + 4, none⟩) hbn).trans (hcell k hk 4 (.int .i64 v) (by rw [hek]; rfl))
    have e5 := (hB.cell (p := ⟨b, o + k * 7 + 5, none⟩) hbn).trans (hcell k hk 5 (.int .i64 x) (by rw [hek]; rfl))
    have e6 := (hB.cell (p := ⟨b, o + k * 7 + 6, none⟩) hbn).trans (hcell k hk 6 (.int .u8 why) (by rw [hek]; rfl))
    rw [Nat.add_zero] at e0
    have x3 := h1.cell 3 (v := .slice (some ⟨b, o, none⟩) l.length cap) rfl
    rw [hek] at hof hmid hmo hst hkd
    dsimp only at hmid hmo hkd
    have hkL : k < 1048576 := by have := HL.out; omega
    have c6 := h6.cell 0 (v := vo) rfl
    have c7 := h7.cell 0 (v := vw) rfl
    have z6 := h6.free 0
    have l6 := lt_of_cell c6
    have l7 := lt_of_cell c7
    have l1 := lt_of_cell x3
    have z7 := h7.free 0
    have hle := Nat.le_of_lt HSZ.out.2
    have hsW := hB.size
    have HH6 := hid h6
    have HH7 := hid h7
    have HH1 := hid h1
    have HHB := hid hB
    have HHH := hid hh
    have j2 : (0 : Int) ≤ (k : Int) := by omega
    have j4 : decide (k < l.length) = true := by rw [decide_eq_true_iff]; omega
    have HHK := hid hk
    clear hcell hek hst h6 h7 h1 hB hh hr hr' hs hI hwf hh0
    by_cases k1 : kind = 1
    · subst k1
      have hof1 : ofI l k = (h.out.length : Nat) := by rw [hof]; unfold ofH; rw [if_pos rfl]
      rw [hof1]
      obtain ⟨E, hE0⟩ : ∃ E, E = Obj.cells #[.int .u8 1, .int .i64 th, .int .i64 tx, .int .i64 at_, .int .i64 v, .int .i64 x, .int .u8 why] 32 := ⟨_, rfl⟩
      obtain ⟨X, hX0⟩ : ∃ X, X = Obj.cells (attL ⟨th, tx, (k : Int), -1, v, 0, false, [], []⟩ (.slice none 0 0) (.slice none 0 0)).toArray 27 := ⟨_, rfl⟩
      have hcf : ∀ j u, (attL ⟨th, tx, (k : Int), -1, v, 0, false, [], []⟩ (.slice none 0 0) (.slice none 0 0))[j]? = some u → ((W.alloc E).alloc X).cell? ((⟨W.heap.size + 1, 0, none⟩ : Addr).add j) = some u := by
        intro j u hu
        have := cells_fresh (W.alloc E) (attL ⟨th, tx, (k : Int), -1, v, 0, false, [], []⟩ (.slice none 0 0) (.slice none 0 0)).toArray 27 j u hu
        rw [World.size_alloc, ← hX0] at this
        exact this
      have ho2 := ((HHH.out.out).alloc E).alloc X
      have hw2 := ((HHH.out.own).alloc E).alloc X
      have q6 := (HH6.out.alloc E).alloc X
      have q7 := (HH7.out.alloc E).alloc X
      have q1 := (HH1.out.alloc E).alloc X
      have h63 : h.out.length + 1 ≤ maxLen := by unfold maxLen; omega
      have hby : (h.out.length + 1) * 104 ≤ 140737488355328 := by omega
      have hby8 : (h.out.length + 1) * 8 ≤ 140737488355328 := by omega
      have hbs : w.heap.size ≤ ((W.alloc E).alloc X).heap.size := by rw [World.size_alloc, World.size_alloc]; omega
      have hko := ((KO.refl w.heap.size W).alloc hsW E).alloc hsW X
      rw [hE0, hX0] at hcf ho2 hw2 q6 q7 q1 hbs hko
      gi_wp2_with (first
        | (gi_at_builtin; refine wpListIn_append_own _ rfl _ _ 23 rfl w.heap.size 27 i9 _ 9 104 Tryd.underlying23 hi9 hz0 hz1 hz2 rfl (by decide) _ _ _ rfl ho2 ⟨W.heap.size + 1, 0, none⟩ 1 1 _ rfl rfl hcf (by simp [attL, Value.oneCell']) h63 hby hbs ?_; intro vo' w4 ho4 hg4 _; obtain ⟨go, co, rfl⟩ := ownsRow_succ ho4; have q6' := q6.grow ho2 hg4 (by decide); have q7' := q7.grow ho2 hg4 (by decide); have q1' := q1.grow ho2 hg4 (by decide); have hw4 := row_grow hw2 ho2 hg4 (by decide); have hko4 := hko.grow hsW ho2 hg4; clear q6 q7 q1 hko; have c6' := q6'.cell 0 (v := vo) rfl; have c7' := q7'.cell 0 (v := vw) rfl; have z6' := q6'.free 0; have z7' := q7'.free 0; have hsz4 : (w4.setCell ⟨w2.heap.size, 0, none⟩ (.slice (some ⟨go, 0, none⟩) (h.out.length + 1) co)).heap.size = w4.heap.size := (by simp [World.setCell]); have hcf2 := cells_fresh (w4.setCell ⟨w2.heap.size, 0, none⟩ (.slice (some ⟨go, 0, none⟩) (h.out.length + 1) co)) #[.int .i64 0] 3; rw [hsz4] at hcf2; have hw4' := (row_set hw4 q6' (by decide) 0 (.slice (some ⟨go, 0, none⟩) (h.out.length + 1) co)).alloc (.cells #[.int .i64 0] 3); have hko4' := (hko4.set (b := w2.heap.size) (o := 0) hle (.slice (some ⟨go, 0, none⟩) (h.out.length + 1) co)).alloc hsW (.cells #[.int .i64 0] 3); have hbs4 := Nat.le_trans hsW hko4'.2.size; have HX4 := hid (And.intro ho4 (And.intro hg4 (And.intro q6' (And.intro q7' (And.intro q1' ho2))))); clear ho4 hg4 q6' q7' q1' hw4 hko4 ho2 hcf hw2 hbs)
        | (gi_at_builtin; refine wpListIn_append_own _ rfl _ _ 29 rfl w.heap.size 3 i3 _ 1 8 Tryd.underlying29 hi3 hy0 hy1 hy2 rfl (by decide) _ _ _ rfl hw4' ⟨w4.heap.size, 0, none⟩ 1 1 [.int .i64 0] rfl rfl hcf2 (by simp [Value.oneCell']) h63 hby8 hbs4 ?_; intro vw' w5 hw5 hg5 _; obtain ⟨gw, cw, rfl⟩ := ownsRow_succ hw5; have q7f := (((HX4.out.2.2.2.1).set_other ⟨w2.heap.size, 0, none⟩ (.slice (some ⟨go, 0, none⟩) (h.out.length + 1) co) (by simp)).alloc (.cells #[.int .i64 0] 3)).grow hw4' hg5 (by decide); have c7f := q7f.cell 0 (v := vw) rfl; have z7f := q7f.free 0))
      have hkoF := (hko4'.grow hsW hw4' hg5).set (b := w2.heap.size + 1) (o := 0) (by omega) (.slice (some ⟨gw, 0, none⟩) (h.out.length + 1) cw)
      obtain ⟨ho4, hg4, q6', q7', q1', ho2⟩ := HX4.out
      have t6 := (((q6'.set 0 (.slice (some ⟨go, 0, none⟩) (h.out.length + 1) co)).alloc (.cells #[.int .i64 0] 3)).grow hw4' hg5 (by decide)).set_other ⟨w2.heap.size + 1, 0, none⟩ (.slice (some ⟨gw, 0, none⟩) (h.out.length + 1) cw) (by simp)
      have t7 := q7f.set 0 (.slice (some ⟨gw, 0, none⟩) (h.out.length + 1) cw)
      have t1 := (((q1'.set_other ⟨w2.heap.size, 0, none⟩ (.slice (some ⟨go, 0, none⟩) (h.out.length + 1) co) (by have := HSZ.out; simp; omega)).alloc (.cells #[.int .i64 0] 3)).grow hw4' hg5 (by decide)).set_other ⟨w2.heap.size + 1, 0, none⟩ (.slice (some ⟨gw, 0, none⟩) (h.out.length + 1) cw) (by have := HSZ.out; simp; omega)
      have toF : ∀ {e size : Nat} {v : Value} {n : Nat} {xs : List Value}, 3 ≠ e → 23 ≠ e → 29 ≠ e → w4.ownsRow w.heap.size e size v n xs → (w5.setCell ⟨w2.heap.size + 1, 0, none⟩ (.slice (some ⟨gw, 0, none⟩) (h.out.length + 1) cw)).ownsRow w.heap.size e size v n xs := fun n1 n2 n3 hr => row_set (row_grow ((row_set hr q6' n2 0 _).alloc _) hw4' hg5 (fun e => n1 e.symm)) q7f n3 0 _
      refine ⟨hkoF.1.from _, ⟨hkoF.2, hkoF.1.walks⟩, ⟨.slice (some ⟨go, 0, none⟩) (h.out.length + 1) co, .slice (some ⟨gw, 0, none⟩) (h.out.length + 1) cw, _, t6, t7, HistAt.begun HHH.out rfl (toF (by decide) (by decide) (by decide) ho4) (row_set hw5 q7f (by decide) 0 _) (fun v n xs hr => toF (by decide) (by decide) (by decide) (row_grow ((hr.alloc _).alloc _) ho2 hg4 (by decide)))⟩, t1, HHB.out.trans hkoF.2⟩
    · by_cases k13 : kind = 13
      · subst k13
        have hof1 : ofI l k = -1 := by rw [hof]; rfl
        rw [hof1]
        obtain ⟨E, hE0⟩ : ∃ E, E = Obj.cells #[.int .u8 13, .int .i64 th, .int .i64 tx, .int .i64 at_, .int .i64 v, .int .i64 x, .int .u8 why] 32 := ⟨_, rfl⟩
        have hko := (KO.refl w.heap.size W).alloc hsW E
        have t6 := HH6.out.alloc E
        have t7 := HH7.out.alloc E
        have t1 := HH1.out.alloc E
        have hhF := HHH.out.calm (World.grownBy_alloc W E none)
        rw [hE0] at hko t6 t7 t1 hhF
        have HF := hid (And.intro hko (And.intro t6 (And.intro t7 (And.intro t1 hhF))))
        clear hko t6 t7 t1 hhF hE0
        gi_wp2
        obtain ⟨hko, t6, t7, t1, hhF⟩ := HF.out
        exact ⟨hko.1.from _, ⟨hko.2, hko.1.walks⟩, ⟨_, _, _, t6, t7, hhF⟩, t1, HHB.out.trans hko.2⟩
      · obtain ⟨at0, oo, hk1, hk2, hkth, hkto, hk7⟩ := hmid k1 k13
        obtain ⟨oo', hk2', ho0, ho32⟩ := hmo k1 k13
        rw [hk2] at hk2'
        cases hk2'
        have hof2 : ofI l k = ((h.last th : Nat) : Int) := by rw [hof]; unfold ofH; rw [if_neg k1, if_neg k13]
        have hSM : stepH h (k : Int) ⟨kind, th, tx, at_, v, x, why⟩ = ⟨h.last, h.out.set (h.last th) (turnA at0 oo ⟨kind, th, tx, at_, v, x, why⟩ (k : Int)), h.owned.set (h.last th) (turnO oo ⟨kind, th, tx, at_, v, x, why⟩)⟩ := by
          unfold stepH; rw [if_neg k1, if_neg k13, getD_of_get? hk1, getD_of_get? hk2]
        rw [hSM, hof2]
        obtain ⟨K, hK0⟩ : ∃ K, K = h.last th := ⟨_, rfl⟩
        rw [← hK0] at hk1 hk2 ⊢
        have hKl : K < h.out.length := (List.getElem?_eq_some_iff.1 hk1).1
        have hGet : h.out.getD K Att.zero = at0 := getD_of_get? hk1
        have hKk : K < k := by omega
        obtain ⟨go, co, rfl, hgb, hgl⟩ := own_slice HHH.out.out (by omega)
        obtain ⟨gw, cw, rfl, hwb, hwl⟩ := own_slice HHH.out.own (by omega)
        have hlf := hlenR at0 (List.mem_of_getElem? hk1)
        have hlenfalse : (plB at0 false).length ≤ k := hlf.1
        have hlentrue : (plB at0 true).length ≤ k := hlf.2
        have i1 : (0 : Int) ≤ (K : Int) := by omega
        have i2 : (K : Int) < (h.out.length : Int) := by omega
        have hne : go ≠ gw := by
          intro e
          subst e
          exact (rows_ne HHH.out.out HHH.out.own (by decide)).elim (fun x => by simp [Value.ownBlock] at x) (fun x => x (by simp [Value.ownBlock]))
        have g1 : (kind == 1) = false := beq_eq_false_iff_ne.2 k1
        clear hmid hmo hof hof2 hSM hK0 hkth hkto hk7 hlenR hlf
        gi_upto_if 32 with fail
        obtain ⟨W1, hW1⟩ : ∃ W1, W1 = W.alloc (.cells #[.int .u8 kind, .int .i64 th, .int .i64 tx, .int .i64 at_, .int .i64 v, .int .i64 x, .int .u8 why] 32) := ⟨_, rfl⟩
        rw [← hW1]
        have hko : KO w.heap.size W W1 := by rw [hW1]; exact (KO.refl w.heap.size W).alloc hsW _
        have t6 : Blk W1 w2.heap.size #[.slice (some ⟨go, 0, none⟩) h.out.length co] 23 := by rw [hW1]; exact HH6.out.alloc _
        have t7 : Blk W1 (w2.heap.size + 1) #[.slice (some ⟨gw, 0, none⟩) h.out.length cw] 29 := by rw [hW1]; exact HH7.out.alloc _
        have t1 : Blk W1 w.heap.size #[.int .i64 T, .int .i64 V, .int .i64 S, .slice (some ⟨b, o, none⟩) l.length cap] 36 := by rw [hW1]; exact HH1.out.alloc _
        have hh1 : HistAt w.heap.size W1 (.slice (some ⟨go, 0, none⟩) h.out.length co) (.slice (some ⟨gw, 0, none⟩) h.out.length cw) h H := by rw [hW1]; exact HHH.out.calm (World.grownBy_alloc W _ none)
        have bE : Blk W1 W.heap.size #[.int .u8 kind, .int .i64 th, .int .i64 tx, .int .i64 at_, .int .i64 v, .int .i64 x, .int .u8 why] 32 := by rw [hW1]; exact Blk.new _ _ _
        have hlW : W.heap.size < W1.heap.size := by rw [hW1, World.size_alloc]; omega
        clear hW1 c6 c7 z6 z7 e0 e1 e2 e3 e4 e5 e6 x3 HH6 HH7 HH1
        have c6 := t6.cell 0 (v := .slice (some ⟨go, 0, none⟩) h.out.length co) rfl
        have c7 := t7.cell 0 (v := .slice (some ⟨gw, 0, none⟩) h.out.length cw) rfl
        have z6 := t6.free 0
        have z7 := t7.free 0
        have f0 := bE.cell 0 (v := .int .u8 kind) rfl
        have f3 := bE.cell 3 (v := .int .i64 at_) rfl
        have f4 := bE.cell 4 (v := .int .i64 v) rfl
        have f5 := bE.cell 5 (v := .int .i64 x) rfl
        have dO := (hh1.own.cellAt K (by omega))
        rw [List.getElem?_map, hk2, Option.map_some] at dO
        have zW := hh1.own.frozenAt K
        have z3 := hh1.out.frozenAt (K * 9 + 3)
        have z5 := hh1.out.frozenAt (K * 9 + 5)
        have z6b := hh1.out.frozenAt (K * 9 + 6)
        have a3 : W1.cell? ⟨go, K * 9 + 3, none⟩ = some (.int .i64 at0.to_) := ((hh1.out.cellAt (K * 9 + 3) (by omega)).trans (attsL_get (j := 3) hKl (by decide))).trans (by rw [hGet]; rfl)
        have a5 : W1.cell? ⟨go, K * 9 + 5, none⟩ = some (.int .i64 at0.wv) := ((hh1.out.cellAt (K * 9 + 5) (by omega)).trans (attsL_get (j := 5) hKl (by decide))).trans (by rw [hGet]; rfl)
        have a6 : W1.cell? ⟨go, K * 9 + 6, none⟩ = some (.bool at0.com) := ((hh1.out.cellAt (K * 9 + 6) (by omega)).trans (attsL_get (j := 6) hKl (by decide))).trans (by rw [hGet]; rfl)
        have n7 : ¬ (w2.heap.size + 1 = gw) := fun e => blk_ne hh1.own t7 (by decide) (by simp [Value.ownBlock, e])
        have n7' : ¬ (gw = w2.heap.size + 1) := fun e => n7 e.symm
        have n6 : ¬ (w2.heap.size = go) := fun e => blk_ne hh1.out t6 (by decide) (by simp [Value.ownBlock, e])
        have n6' : ¬ (go = w2.heap.size) := fun e => n6 e.symm
        have hne' : ¬ (gw = go) := fun e => hne e.symm
        have hsW1 : w.heap.size ≤ W1.heap.size := Nat.le_trans hsW hko.2.size
        have hkk : kind = 2 ∨ kind = 3 ∨ kind = 4 ∨ kind = 5 ∨ kind = 6 ∨ kind = 7 ∨ kind = 8 ∨ kind = 9 ∨ kind = 10 ∨ kind = 11 ∨ kind = 12 := by omega
        clear k1 k13 g1 hkd
        rcases hkk with kx | kx | kx | kx | kx | kx | kx | kx | kx | kx | kx
        · subst kx
          have hTA : turnA at0 oo ⟨2, th, tx, at_, v, x, why⟩ (k : Int) = at0 := rfl
          have hTO : turnO oo ⟨2, th, tx, at_, v, x, why⟩ = oo := rfl
          have HF := hid (And.intro hko (And.intro t6 (And.intro t7 (And.intro t1 hh1))))
          clear hko t6 t7 t1 hh1
          gi_wp2
          obtain ⟨hko, t6, t7, t1, hh1⟩ := HF.out
          exact ⟨(hko).1.from _, ⟨(hko).2, (hko).1.walks⟩, ⟨.slice (some ⟨go, 0, none⟩) h.out.length co, .slice (some ⟨gw, 0, none⟩) h.out.length cw, H, t6, t7, hh1.as (by first | exact ((set_same hk1).symm.trans (congrArg (h.out.set K) hTA.symm)) | exact (set_same hk1).symm) (by first | exact ((set_same hk2).symm.trans (congrArg (h.owned.set K) hTO.symm)) | exact (set_same hk2).symm)⟩, t1, HHB.out.trans (hko).2⟩
        · subst kx
          have hTA : turnA at0 oo ⟨3, th, tx, at_, v, x, why⟩ (k : Int) = { at0 with reads := at0.reads ++ [(at_, x)] } := rfl
          have hTO : turnO oo ⟨3, th, tx, at_, v, x, why⟩ = oo := rfl
          have hrow := (hh1.drew0.rows K false hKl)
          rw [hGet] at hrow
          have hprow := hrow.alloc (.cells #[.int .i64 at_, .int .i64 x] 67)
          have hfr := cells_fresh W1.drew #[.int .i64 at_, .int .i64 x] 67
          have hfs : W1.drew.heap.size = W1.heap.size := rfl
          rw [hfs] at hfr
          have hpl : (plB at0 false).length ≤ k := hlenfalse
          obtain ⟨v', w1, hrun, hown', hgrow, hnil, hblk⟩ := run_append_own_at (P := Tryd.prog) (W1.drew.alloc (.cells #[.int .i64 at_, .int .i64 x] 67)) w.heap.size 25 25 67 iP _ 2 16 Tryd.underlying25 hiP hp0 hp1 hp2 rfl (by decide) (H K false) _ _ hprow ⟨W1.heap.size, 0, none⟩ 1 1 [.int .i64 at_, .int .i64 x] rfl hfr (by simp [Value.oneCell']) (by unfold maxLen; omega) (by omega) (by rw [World.size_alloc, hfs]; omega)
          obtain ⟨gp, cp, rfl⟩ := ownsRow_succ hown'
          obtain ⟨hp1', hp2'⟩ := HistAt.pair (k := K) (b := false) (p := (at_, x)) (a' := { at0 with reads := at0.reads ++ [(at_, x)] }) ((hh1.drew0).calm (World.grownBy_alloc _ (.cells #[.int .i64 at_, .int .i64 x] 67) none)) hKl (by rw [hGet]; exact hown') (by exact hgrow) (by rcases hblk with e | e; exact .inl e; exact .inr ⟨_, e, Nat.le_refl _⟩) (by rw [hGet]; rfl) (by rw [hGet]; rfl) (by rw [hGet]; rfl)
          have hko3 := ((hko.drew.alloc hsW (.cells #[.int .i64 at_, .int .i64 x] 67)).grow hsW hprow hgrow)
          have hkoF := hko3.set (b := go) (o := K * 9 + 7) hgb (.slice (some ⟨gp, 0, none⟩) ((plB at0 false).length + 1) cp)
          have hw1o := row_grow ((hh1.drew0.out).alloc (.cells #[.int .i64 at_, .int .i64 x] 67)) hprow hgrow (by decide)
          have u6 := ((t6.drew).alloc (.cells #[.int .i64 at_, .int .i64 x] 67)).grow hprow hgrow (by decide)
          have u7 := ((t7.drew).alloc (.cells #[.int .i64 at_, .int .i64 x] 67)).grow hprow hgrow (by decide)
          have u1 := ((t1.drew).alloc (.cells #[.int .i64 at_, .int .i64 x] 67)).grow hprow hgrow (by decide)
          have t6F := u6.grown hp2' (fun e => blk_ne hw1o u6 (by decide) e)
          have t7F := u7.grown hp2' (fun e => blk_ne hw1o u7 (by decide) e)
          have t1F := u1.grown hp2' (fun e => blk_ne hw1o u1 (by decide) e)
          have zo := hw1o.frozenAt (K * 9 + 7)
          have dW := (hw1o.cellAt (K * 9 + 7) (by omega)).trans (attsL_get (j := 7) hKl (by decide))
          have HF := hid (And.intro hkoF (And.intro t6F (And.intro t7F (And.intro t1F hp1'))))
          have dE3 := bE.drew.cell 3 (v := .int .i64 at_) rfl
          have dE5 := bE.drew.cell 5 (v := .int .i64 x) rfl
          have dE3' := (bE.drew.alloc (.cells #[.int .i64 at_, .int .i64 x] 67)).cell 3 (v := .int .i64 at_) rfl
          have dE5' := (bE.drew.alloc (.cells #[.int .i64 at_, .int .i64 x] 67)).cell 5 (v := .int .i64 x) rfl
          have dH := ((hh1.drew0).out.cellAt (K * 9 + 7) (by omega)).trans (attsL_get (j := 7) hKl (by decide))
          have dH' := (((hh1.drew0).out.alloc (.cells #[.int .i64 at_, .int .i64 x] 67)).cellAt (K * 9 + 7) (by omega)).trans (attsL_get (j := 7) hKl (by decide))
          obtain ⟨Wd, hWd⟩ : ∃ Wd, Wd = W1.drew := ⟨_, rfl⟩
          obtain ⟨Wt, hWt⟩ : ∃ Wt, Wt = Wd.alloc (.cells #[.int .i64 at_, .int .i64 x] 67) := ⟨_, rfl⟩
          have hWds : Wd.heap.size = W1.heap.size := by rw [hWd]; rfl
          rw [← hWd] at hrun dE3 dE5 dH dE3' dE5' dH'
          rw [← hWt] at hrun dE3' dE5' dH'
          have HWd := hid hWd
          have HWt := hid hWt
          have HRUN := hid hrun
          clear hrun hko t6 t7 t1 hh1 hrow hprow hfr hfs hown' hgrow hnil hblk hp1' hp2' hko3 hkoF hw1o u6 u7 u1 t6F t7F t1F hWd hWt bE
          gi_wp2
          clear c6 c7 z6 z7
          apply wp_round_valsJ [.pointer (some ⟨go, K * 9, none⟩), .pointer (some ⟨go, K * 9, none⟩), .pointer (some ⟨go, K * 9, none⟩), .pointer (some ⟨go, K * 9 + 7, none⟩), H K false, .pointer (some ⟨W.heap.size, 3, none⟩), .int .i64 at_, .pointer (some ⟨W.heap.size, 5, none⟩), .int .i64 x, .agg #[.int .i64 at_, .int .i64 x], .slice (some ⟨W1.heap.size, 0, none⟩) 1 1, .slice (some ⟨gp, 0, none⟩) ((plB at0 false).length + 1) cp, .pointer (some ⟨go, K * 9, none⟩), .pointer (some ⟨go, K * 9 + 7, none⟩), undef] (Seq3 _ 10 11 14 Wd Wt w1 (w1.setCell ⟨go, K * 9 + 7, none⟩ (.slice (some ⟨gp, 0, none⟩) ((plB at0 false).length + 1) cp)))
          focus (simp [putAll, dstOf, Act.put, List.getD]; rfl)
          case hm => kernel_rfl
          case hnd => kernel_rfl
          case hq => rintro ⟨ax, wx, hx⟩; exact hx
          case hd => kernel_rfl
          case hb => kernel_rfl
          case hdep => kernel_rfl
          case hsel => kernel_rfl
          case hng => kernel_rfl
          case hgv => kernel_rfl
          case hsz => kernel_rfl
          case hext => (intro l1 l2 w' hx hG; exact hG.ext (by kernel_rfl) (of_decide_eq_true (by kernel_rfl)) (of_decide_eq_true (by kernel_rfl)) (of_decide_eq_true (by kernel_rfl)) hx)
          case h0 => (rw [← HWd.out]; exact Seq3.start)
          case hstep =>
            refine ⟨?_, ?_, ?_, ?_, ?_, ?_, ?_, ?_, ?_, ?_, ?_, ?_, ?_, ?_, ?_, trivial⟩
            · intro l' w' hl hdp hG
              rw [if_pos (by kernel_rfl)]
              intro K' Qp hK
              have HG := hid (hG.other (i := 0) rfl hdp (by decide) (by decide) (by decide))
              clear hG hl hdp
              go_simp
              exact hK _ HG.out
            · intro l' w' hl hdp hG
              rw [if_pos (by kernel_rfl)]
              intro K' Qp hK
              have HG := hid (hG.other (i := 1) rfl hdp (by decide) (by decide) (by decide))
              clear hG hl hdp
              go_simp
              exact hK _ HG.out
            · intro l' w' hl hdp hG
              rw [if_pos (by kernel_rfl)]
              intro K' Qp hK
              have HG := hid (hG.other (i := 2) rfl hdp (by decide) (by decide) (by decide))
              clear hG hl hdp
              go_simp
              exact hK _ HG.out
            · intro l' w' hl hdp hG
              rw [if_pos (by kernel_rfl)]
              intro K' Qp hK
              have HG := hid (hG.other (i := 3) rfl hdp (by decide) (by decide) (by decide))
              clear hG hl hdp
              go_simp
              exact hK _ HG.out
            · intro l' w' hl hdp hG
              rw [if_pos (by kernel_rfl)]
              intro K' Qp hK
              have hn11 : l' 11 = false := by
                cases h11 : l' 11 with
                | false => rfl
                | true => rw [hG.clo 11 _ 4 rfl h11 rfl] at hl; cases hl
              have HG := hid (hG.other (i := 4) rfl hdp (by decide) (by decide) (by decide))
              have hw : w' = Wd ∨ w' = Wt := by
                cases h10 : l' 10 with
                | false => exact .inl (hG.s0 h10)
                | true => exact .inr (hG.s1 h10 hn11)
              clear hG hl hdp hn11
              rcases hw with rfl | rfl
              · go_simp
                exact hK _ HG.out
              · go_simp
                exact hK _ HG.out
            · intro l' w' hl hdp hG
              rw [if_pos (by kernel_rfl)]
              intro K' Qp hK
              have HG := hid (hG.other (i := 5) rfl hdp (by decide) (by decide) (by decide))
              clear hG hl hdp
              go_simp
              exact hK _ HG.out
            · intro l' w' hl hdp hG
              rw [if_pos (by kernel_rfl)]
              intro K' Qp hK
              have hn11 : l' 11 = false := by
                cases h11 : l' 11 with
                | false => rfl
                | true => rw [hG.clo 9 _ 6 rfl (hG.clo 10 _ 9 rfl (hG.clo 11 _ 10 rfl h11 rfl) rfl) rfl] at hl; cases hl
              have HG := hid (hG.other (i := 6) rfl hdp (by decide) (by decide) (by decide))
              have hw : w' = Wd ∨ w' = Wt := by
                cases h10 : l' 10 with
                | false => exact .inl (hG.s0 h10)
                | true => exact .inr (hG.s1 h10 hn11)
              clear hG hl hdp hn11
              rcases hw with rfl | rfl
              · go_simp
                exact hK _ HG.out
              · go_simp
                exact hK _ HG.out
            · intro l' w' hl hdp hG
              rw [if_pos (by kernel_rfl)]
              intro K' Qp hK
              have HG := hid (hG.other (i := 7) rfl hdp (by decide) (by decide) (by decide))
              clear hG hl hdp
              go_simp
              exact hK _ HG.out
            · intro l' w' hl hdp hG
              rw [if_pos (by kernel_rfl)]
              intro K' Qp hK
              have hn11 : l' 11 = false := by
                cases h11 : l' 11 with
                | false => rfl
                | true => rw [hG.clo 9 _ 8 rfl (hG.clo 10 _ 9 rfl (hG.clo 11 _ 10 rfl h11 rfl) rfl) rfl] at hl; cases hl
              have HG := hid (hG.other (i := 8) rfl hdp (by decide) (by decide) (by decide))
              have hw : w' = Wd ∨ w' = Wt := by
                cases h10 : l' 10 with
                | false => exact .inl (hG.s0 h10)
                | true => exact .inr (hG.s1 h10 hn11)
              clear hG hl hdp hn11
              rcases hw with rfl | rfl
              · go_simp
                exact hK _ HG.out
              · go_simp
                exact hK _ HG.out
            · intro l' w' hl hdp hG
              rw [if_pos (by kernel_rfl)]
              intro K' Qp hK
              have HG := hid (hG.other (i := 9) rfl hdp (by decide) (by decide) (by decide))
              clear hG hl hdp
              go_simp
              exact hK _ HG.out
            · intro l' w' hl hdp hG
              rw [if_pos (by kernel_rfl)]
              intro K' Qp hK
              obtain ⟨rfl, hG'⟩ := hG.first rfl hdp hl (fun h11 => hG.clo 11 _ 10 rfl h11 rfl) (fun h14 => hG.clo 14 _ 11 rfl h14 rfl) (by decide) (by decide)
              have HG := hid hG'
              clear hG hl hdp hG'
              go_simp
              rw [← HWt.out]
              exact hK _ HG.out
            · intro l' w' hl hdp hG
              rw [if_pos (by kernel_rfl)]
              intro K' Qp hK
              obtain ⟨rfl, hG'⟩ := hG.second rfl hdp hl (hdp 10 rfl) (fun h14 => hG.clo 14 _ 11 rfl h14 rfl) (by decide) (by decide)
              have HG := hid hG'
              clear hG hl hdp hG'
              refine OpY.wp (opY_append (s := .tmp 60) (x := .tmp 66) (t := 25) rfl (vs := H K false) (vx := .slice (some ⟨W1.heap.size, 0, none⟩) 1 1) rfl rfl HRUN.out (hK _ HG.out))
            · intro l' w' hl hdp hG
              rw [if_pos (by kernel_rfl)]
              intro K' Qp hK
              have HG := hid (hG.other (i := 12) rfl hdp (by decide) (by decide) (by decide))
              clear hG hl hdp
              go_simp
              exact hK _ HG.out
            · intro l' w' hl hdp hG
              rw [if_pos (by kernel_rfl)]
              intro K' Qp hK
              have HG := hid (hG.other (i := 13) rfl hdp (by decide) (by decide) (by decide))
              clear hG hl hdp
              go_simp
              exact hK _ HG.out
            · intro l' w' hl hdp hG
              rw [if_pos (by kernel_rfl)]
              intro K' Qp hK
              obtain ⟨rfl, hG'⟩ := hG.third rfl hdp hl (hdp 11 rfl) (hG.clo 11 _ 10 rfl (hdp 11 rfl) rfl) (by decide) (by decide)
              have HG := hid hG'
              clear hG hl hdp hG'
              go_simp
              exact hK _ HG.out
          case hdone =>
            intro w' hG
            obtain rfl := hG.done
            clear hG
            gi_wp2
            obtain ⟨hko, t6, t7, t1, hh2⟩ := HF.out
            exact ⟨(hko).1.from _, ⟨(hko).2, (hko).1.walks⟩, ⟨.slice (some ⟨go, 0, none⟩) h.out.length co, .slice (some ⟨gw, 0, none⟩) h.out.length cw, _, t6, t7, hh2.as (by first | exact (congrArg (h.out.set K) hTA.symm) | exact rfl) (by first | exact ((set_same hk2).symm.trans (congrArg (h.owned.set K) hTO.symm)) | exact (set_same hk2).symm)⟩, t1, HHB.out.trans (hko).2⟩
        · subst kx
          have hTA : turnA at0 oo ⟨4, th, tx, at_, v, x, why⟩ (k : Int) = at0 := rfl
          have hTO : turnO oo ⟨4, th, tx, at_, v, x, why⟩ = oo + 1 := rfl
          have hc2 := hh1.count (k := K) (oo + 1)
          have hko2 := hko.set (b := gw) (o := K) hwb (.int .i64 (oo + 1))
          have t62 := t6.grown hc2.2 (fun e => blk_ne hh1.own t6 (by decide) e)
          have t72 := t7.grown hc2.2 (fun e => blk_ne hh1.own t7 (by decide) e)
          have t12 := t1.grown hc2.2 (fun e => blk_ne hh1.own t1 (by decide) e)
          have wr : IntKind.i64.wrap (oo + 1) = oo + 1 := IntWalk.i64_in _ (by omega)
          have HF := hid (And.intro hko2 (And.intro t62 (And.intro t72 (And.intro t12 hc2.1))))
          clear hko hko2 t6 t62 t7 t72 t1 t12 hh1 hc2
          gi_wp2
          obtain ⟨hko, t6, t7, t1, hh2⟩ := HF.out
          exact ⟨(hko).1.from _, ⟨(hko).2, (hko).1.walks⟩, ⟨.slice (some ⟨go, 0, none⟩) h.out.length co, .slice (some ⟨gw, 0, none⟩) h.out.length cw, H, t6, t7, hh2.as (by first | exact ((set_same hk1).symm.trans (congrArg (h.out.set K) hTA.symm)) | exact (set_same hk1).symm) (by first | exact (congrArg (h.owned.set K) hTO.symm) | exact rfl)⟩, t1, HHB.out.trans (hko).2⟩
        · subst kx
          have hTA : turnA at0 oo ⟨5, th, tx, at_, v, x, why⟩ (k : Int) = at0 := rfl
          have hTO : turnO oo ⟨5, th, tx, at_, v, x, why⟩ = oo := rfl
          have HF := hid (And.intro hko (And.intro t6 (And.intro t7 (And.intro t1 hh1))))
          clear hko t6 t7 t1 hh1
          gi_wp2
          obtain ⟨hko, t6, t7, t1, hh1⟩ := HF.out
          exact ⟨(hko).1.from _, ⟨(hko).2, (hko).1.walks⟩, ⟨.slice (some ⟨go, 0, none⟩) h.out.length co, .slice (some ⟨gw, 0, none⟩) h.out.length cw, H, t6, t7, hh1.as (by first | exact ((set_same hk1).symm.trans (congrArg (h.out.set K) hTA.symm)) | exact (set_same hk1).symm) (by first | exact ((set_same hk2).symm.trans (congrArg (h.owned.set K) hTO.symm)) | exact (set_same hk2).symm)⟩, t1, HHB.out.trans (hko).2⟩
        · subst kx
          have hTA : turnA at0 oo ⟨6, th, tx, at_, v, x, why⟩ (k : Int) = at0 := rfl
          have hTO : turnO oo ⟨6, th, tx, at_, v, x, why⟩ = oo := rfl
          have HF := hid (And.intro hko (And.intro t6 (And.intro t7 (And.intro t1 hh1))))
          clear hko t6 t7 t1 hh1
          gi_wp2
          obtain ⟨hko, t6, t7, t1, hh1⟩ := HF.out
          exact ⟨(hko).1.from _, ⟨(hko).2, (hko).1.walks⟩, ⟨.slice (some ⟨go, 0, none⟩) h.out.length co, .slice (some ⟨gw, 0, none⟩) h.out.length cw, H, t6, t7, hh1.as (by first | exact ((set_same hk1).symm.trans (congrArg (h.out.set K) hTA.symm)) | exact (set_same hk1).symm) (by first | exact ((set_same hk2).symm.trans (congrArg (h.owned.set K) hTO.symm)) | exact (set_same hk2).symm)⟩, t1, HHB.out.trans (hko).2⟩
        · subst kx
          have hTA : turnA at0 oo ⟨7, th, tx, at_, v, x, why⟩ (k : Int) = { at0 with com := true, wv := v, to_ := if oo = 0 then (k : Int) else at0.to_ } := rfl
          have hTO : turnO oo ⟨7, th, tx, at_, v, x, why⟩ = oo := rfl
          have hf1 := HistAt.field (k := K) (j := 6) (a' := { at0 with com := true }) (u := .bool true) hh1.drew0 hKl (by decide) (by rw [hGet]; rfl) (by intro b; rw [hGet]; cases b <;> rfl)
          have hf2 := HistAt.field (h := ⟨h.last, h.out.set K { at0 with com := true }, h.owned⟩) (k := K) (j := 5) (a' := { at0 with com := true, wv := v }) (u := .int .i64 v) (by have := hf1.1; rwa [show h.out.length = (h.out.set K { at0 with com := true }).length by rw [List.length_set]] at this) (by show K < (h.out.set K _).length; rw [List.length_set]; exact hKl) (by decide) (by show (attL ((h.out.set K _).getD K Att.zero) _ _).set _ _ = _; rw [getD_set_eq _ _ _ _ hKl]; rfl) (by intro b; show _ = plB ((h.out.set K _).getD K Att.zero) b; rw [getD_set_eq _ _ _ _ hKl]; cases b <;> rfl)
          have hlen2 : (h.out.set K { at0 with com := true }).length = h.out.length := by rw [List.length_set]
          have hh3' := hf2.1
          dsimp only at hh3'
          rw [hlen2, List.set_set] at hh3'
          have hko3' := ((hko.drew.set (b := go) (o := K * 9 + 6) hgb (.bool true)).set (b := go) (o := K * 9 + 5) hgb (.int .i64 v))
          have v6 := (t6.drew.grown hf1.2 (fun e => blk_ne hh1.drew0.out t6.drew (by decide) e)).grown hf2.2 (fun e => blk_ne hf1.1.out (t6.drew.grown hf1.2 (fun e => blk_ne hh1.drew0.out t6.drew (by decide) e)) (by decide) e)
          have v7 := (t7.drew.grown hf1.2 (fun e => blk_ne hh1.drew0.out t7.drew (by decide) e)).grown hf2.2 (fun e => blk_ne hf1.1.out (t7.drew.grown hf1.2 (fun e => blk_ne hh1.drew0.out t7.drew (by decide) e)) (by decide) e)
          have v1 := (t1.drew.grown hf1.2 (fun e => blk_ne hh1.drew0.out t1.drew (by decide) e)).grown hf2.2 (fun e => blk_ne hf1.1.out (t1.drew.grown hf1.2 (fun e => blk_ne hh1.drew0.out t1.drew (by decide) e)) (by decide) e)
          obtain ⟨W3, hW3⟩ : ∃ W3, W3 = (W1.drew.setCell ⟨go, K * 9 + 6, none⟩ (.bool true)).setCell ⟨go, K * 9 + 5, none⟩ (.int .i64 v) := ⟨_, rfl⟩
          rw [← hW3] at hh3' hko3' v6 v7 v1
          have HF := hid (And.intro hko3' (And.intro v6 (And.intro v7 (And.intro v1 hh3'))))
          have HW3 := hid hW3
          have HBE := hid bE.drew
          have hgW : W.heap.size ≠ go := by omega
          have hout1 : (W1.drew.setCell ⟨go, K * 9 + 6, none⟩ (.bool true)).ownsRow w.heap.size 27 9 (.slice (some ⟨go, 0, none⟩) h.out.length co) h.out.length (attsL (h.out.set K { at0 with com := true }) H) := by have := hf1.1.out; simpa only [List.length_set] using this
          have hKl1 : K < (h.out.set K { at0 with com := true }).length := by rw [List.length_set]; exact hKl
          have HQ5 : Hid ((W1.drew.setCell ⟨go, K * 9 + 6, none⟩ (.bool true)).cell? ⟨go, K * 9 + 5, none⟩ = some (.int .i64 at0.wv)) := hid (((hout1.cellAt (K * 9 + 5) (by omega)).trans (attsL_get (j := 5) hKl1 (by decide))).trans (by rw [getD_set_eq _ _ _ _ hKl]; rfl))
          clear hout1 hKl1
          have HZ := hid (And.intro a5 (And.intro a6 (And.intro z5 z6b)))
          clear hf1 hf2 hh3' hko3' v6 v7 v1 hW3 hko t6 t7 t1 hh1 bE hlen2
          gi_wp2
          clear c6 c7 z6 z7 dO zW a3 a5 a6 z3 z5 z6b f0 f3 f4 f5
          apply wp_round_valsJ [.pointer (some ⟨go, K * 9, none⟩), .pointer (some ⟨go, K * 9, none⟩), .pointer (some ⟨W.heap.size, 4, none⟩), .int .i64 v, .pointer (some ⟨go, K * 9, none⟩), .pointer (some ⟨go, K * 9 + 6, none⟩), undef, .pointer (some ⟨go, K * 9, none⟩), .pointer (some ⟨go, K * 9 + 5, none⟩), undef] (TwoSt W1.drew go (K * 9 + 6) (K * 9 + 5) (.bool true) (.int .i64 v) 6 9)
          focus (simp [putAll, dstOf, Act.put, List.getD]; rfl)
          case hm => kernel_rfl
          case hnd => kernel_rfl
          case hq => rintro ⟨ax, wx, hx⟩; exact hx
          case hd => kernel_rfl
          case hb => kernel_rfl
          case hdep => kernel_rfl
          case hsel => kernel_rfl
          case hng => kernel_rfl
          case hgv => kernel_rfl
          case hsz => kernel_rfl
          case hext => (intro l1 l2 w' hx hG; exact hG.ext (of_decide_eq_true (by kernel_rfl)) (of_decide_eq_true (by kernel_rfl)) hx)
          case h0 => exact TwoSt.start
          case hstep =>
            refine ⟨?_, ?_, ?_, ?_, ?_, ?_, ?_, ?_, ?_, ?_, trivial⟩
            · intro l' w' hl hdp hJ
              rw [if_pos (by kernel_rfl)]
              intro K' Qp hK
              have HJ := hid hJ
              clear hJ
              go_simp
              exact hK _ (HJ.out.other 0 (by omega) (by omega))
            · intro l' w' hl hdp hJ
              rw [if_pos (by kernel_rfl)]
              intro K' Qp hK
              have HJ := hid hJ
              clear hJ
              go_simp
              exact hK _ (HJ.out.other 1 (by omega) (by omega))
            · intro l' w' hl hdp hJ
              rw [if_pos (by kernel_rfl)]
              intro K' Qp hK
              have HJ := hid hJ
              clear hJ
              go_simp
              exact hK _ (HJ.out.other 2 (by omega) (by omega))
            · intro l' w' hl hdp hJ
              rw [if_pos (by kernel_rfl)]
              intro K' Qp hK
              have d4 := (hJ.blk2 hgW HBE.out).cell 4 (v := .int .i64 v) rfl
              have HJ := hid hJ
              clear hJ
              go_simp
              exact hK _ (HJ.out.other 3 (by omega) (by omega))
            · intro l' w' hl hdp hJ
              rw [if_pos (by kernel_rfl)]
              intro K' Qp hK
              have HJ := hid hJ
              clear hJ
              go_simp
              exact hK _ (HJ.out.other 4 (by omega) (by omega))
            · intro l' w' hl hdp hJ
              rw [if_pos (by kernel_rfl)]
              intro K' Qp hK
              have HJ := hid hJ
              clear hJ
              go_simp
              exact hK _ (HJ.out.other 5 (by omega) (by omega))
            · intro l' w' hl hdp hJ
              rw [if_pos (by kernel_rfl)]
              intro K' Qp hK
              obtain ⟨rfl, hJ'⟩ := hJ.first (by omega) hl
              have HJ := hid hJ'
              obtain ⟨q1, q2, q3, q4⟩ := HZ.out
              clear hJ hJ'
              go_simp
              exact hK _ HJ.out
            · intro l' w' hl hdp hJ
              rw [if_pos (by kernel_rfl)]
              intro K' Qp hK
              have HJ := hid hJ
              clear hJ
              go_simp
              exact hK _ (HJ.out.other 7 (by omega) (by omega))
            · intro l' w' hl hdp hJ
              rw [if_pos (by kernel_rfl)]
              intro K' Qp hK
              have HJ := hid hJ
              clear hJ
              go_simp
              exact hK _ (HJ.out.other 8 (by omega) (by omega))
            · intro l' w' hl hdp hJ
              rw [if_pos (by kernel_rfl)]
              intro K' Qp hK
              obtain ⟨rfl, hJ'⟩ := hJ.second (by omega) (hdp 6 rfl) hl
              have HJ := hid hJ'
              obtain ⟨q1, q2, q3, q4⟩ := HZ.out
              have q5' := HQ5.out
              clear hJ hJ'
              go_simp
              exact hK _ HJ.out
          case hdone =>
            intro w' hG
            have hw3 := hG.done
            rw [← HW3.out] at hw3
            subst hw3
            clear hG
            obtain ⟨hko, t6, t7, t1, hh3⟩ := HF.out
            have c6 := t6.cell 0 (v := .slice (some ⟨go, 0, none⟩) h.out.length co) rfl
            have c7 := t7.cell 0 (v := .slice (some ⟨gw, 0, none⟩) h.out.length cw) rfl
            have hown3 : w'.ownsRow w.heap.size 3 1 (.slice (some ⟨gw, 0, none⟩) h.out.length cw) h.out.length (h.owned.map (.int .i64)) := by have := hh3.own; simpa only [List.length_set] using this
            have hout3 : w'.ownsRow w.heap.size 27 9 (.slice (some ⟨go, 0, none⟩) h.out.length co) h.out.length (attsL (h.out.set K { at0 with com := true, wv := v }) H) := by have := hh3.out; simpa only [List.length_set] using this
            have dO := (hown3.cellAt K (by omega))
            rw [List.getElem?_map, hk2, Option.map_some] at dO
            have hKl' : K < (h.out.set K { at0 with com := true, wv := v }).length := by rw [List.length_set]; exact hKl
            have a3 : w'.cell? ⟨go, K * 9 + 3, none⟩ = some (.int .i64 at0.to_) := ((hout3.cellAt (K * 9 + 3) (by omega)).trans (attsL_get (j := 3) hKl' (by decide))).trans (by rw [getD_set_eq _ _ _ _ hKl]; rfl)
            have z3 := hout3.frozenAt (K * 9 + 3)
            clear HF hown3 hout3
            by_cases hz : oo = 0
            · rw [if_pos hz] at hTA
              have z1 : (oo == 0) = true := by rw [hz]; rfl
              clear hz
              have hf := HistAt.field (h := ⟨h.last, h.out.set K { at0 with com := true, wv := v }, h.owned⟩) (k := K) (j := 3) (a' := { at0 with com := true, wv := v, to_ := (k : Int) }) (u := .int .i64 (k : Int)) (by have := hh3; rwa [show h.out.length = (h.out.set K { at0 with com := true, wv := v }).length by rw [List.length_set]] at this) (by show K < (h.out.set K _).length; rw [List.length_set]; exact hKl) (by decide) (by show (attL ((h.out.set K _).getD K Att.zero) _ _).set _ _ = _; rw [getD_set_eq _ _ _ _ hKl]; rfl) (by intro b; show _ = plB ((h.out.set K _).getD K Att.zero) b; rw [getD_set_eq _ _ _ _ hKl]; cases b <;> rfl)
              have hlen3 : (h.out.set K { at0 with com := true, wv := v }).length = h.out.length := by rw [List.length_set]
              have hkoF := hko.set (b := go) (o := K * 9 + 3) hgb (.int .i64 (k : Int))
              have t6F := t6.grown hf.2 (fun e => blk_ne hh3.out t6 (by decide) (by simpa [Value.ownBlock] using e))
              have t7F := t7.grown hf.2 (fun e => blk_ne hh3.out t7 (by decide) (by simpa [Value.ownBlock] using e))
              have t1F := t1.grown hf.2 (fun e => blk_ne hh3.out t1 (by decide) (by simpa [Value.ownBlock] using e))
              have hhF := hf.1
              dsimp only at hhF
              rw [hlen3, List.set_set] at hhF
              have HF2 := hid (And.intro hkoF (And.intro t6F (And.intro t7F (And.intro t1F hhF))))
              clear hf hlen3 hkoF t6F t7F t1F hhF hko t6 t7 t1 hh3
              gi_wp2
              obtain ⟨hko, t6, t7, t1, hh2⟩ := HF2.out
              exact ⟨(hko).1.from _, ⟨(hko).2, (hko).1.walks⟩, ⟨.slice (some ⟨go, 0, none⟩) h.out.length co, .slice (some ⟨gw, 0, none⟩) h.out.length cw, H, t6, t7, hh2.as (by first | exact (congrArg (h.out.set K) hTA.symm) | exact rfl) (by first | exact ((set_same hk2).symm.trans (congrArg (h.owned.set K) hTO.symm)) | exact (set_same hk2).symm)⟩, t1, HHB.out.trans (hko).2⟩
            · rw [if_neg hz] at hTA
              have z1 : (oo == 0) = false := beq_eq_false_iff_ne.2 hz
              clear hz
              have HF2 := hid (And.intro hko (And.intro t6 (And.intro t7 (And.intro t1 hh3))))
              clear hko t6 t7 t1 hh3
              gi_wp2
              obtain ⟨hko, t6, t7, t1, hh2⟩ := HF2.out
              exact ⟨(hko).1.from _, ⟨(hko).2, (hko).1.walks⟩, ⟨.slice (some ⟨go, 0, none⟩) h.out.length co, .slice (some ⟨gw, 0, none⟩) h.out.length cw, H, t6, t7, hh2.as (by first | exact (congrArg (h.out.set K) hTA.symm) | exact rfl) (by first | exact ((set_same hk2).symm.trans (congrArg (h.owned.set K) hTO.symm)) | exact (set_same hk2).symm)⟩, t1, HHB.out.trans (hko).2⟩
        · subst kx
          have hTA : turnA at0 oo ⟨8, th, tx, at_, v, x, why⟩ (k : Int) = { at0 with writes := at0.writes ++ [(at_, x)] } := rfl
          have hTO : turnO oo ⟨8, th, tx, at_, v, x, why⟩ = oo := rfl
          have hrow := (hh1.drew0.rows K true hKl)
          rw [hGet] at hrow
          have hprow := hrow.alloc (.cells #[.int .i64 at_, .int .i64 x] 67)
          have hfr := cells_fresh W1.drew #[.int .i64 at_, .int .i64 x] 67
          have hfs : W1.drew.heap.size = W1.heap.size := rfl
          rw [hfs] at hfr
          have hpl : (plB at0 true).length ≤ k := hlentrue
          obtain ⟨v', w1, hrun, hown', hgrow, hnil, hblk⟩ := run_append_own_at (P := Tryd.prog) (W1.drew.alloc (.cells #[.int .i64 at_, .int .i64 x] 67)) w.heap.size 25 25 67 iP _ 2 16 Tryd.underlying25 hiP hp0 hp1 hp2 rfl (by decide) (H K true) _ _ hprow ⟨W1.heap.size, 0, none⟩ 1 1 [.int .i64 at_, .int .i64 x] rfl hfr (by simp [Value.oneCell']) (by unfold maxLen; omega) (by omega) (by rw [World.size_alloc, hfs]; omega)
          obtain ⟨gp, cp, rfl⟩ := ownsRow_succ hown'
          obtain ⟨hp1', hp2'⟩ := HistAt.pair (k := K) (b := true) (p := (at_, x)) (a' := { at0 with writes := at0.writes ++ [(at_, x)] }) ((hh1.drew0).calm (World.grownBy_alloc _ (.cells #[.int .i64 at_, .int .i64 x] 67) none)) hKl (by rw [hGet]; exact hown') (by exact hgrow) (by rcases hblk with e | e; exact .inl e; exact .inr ⟨_, e, Nat.le_refl _⟩) (by rw [hGet]; rfl) (by rw [hGet]; rfl) (by rw [hGet]; rfl)
          have hko3 := ((hko.drew.alloc hsW (.cells #[.int .i64 at_, .int .i64 x] 67)).grow hsW hprow hgrow)
          have hkoF := hko3.set (b := go) (o := K * 9 + 8) hgb (.slice (some ⟨gp, 0, none⟩) ((plB at0 true).length + 1) cp)
          have hw1o := row_grow ((hh1.drew0.out).alloc (.cells #[.int .i64 at_, .int .i64 x] 67)) hprow hgrow (by decide)
          have u6 := ((t6.drew).alloc (.cells #[.int .i64 at_, .int .i64 x] 67)).grow hprow hgrow (by decide)
          have u7 := ((t7.drew).alloc (.cells #[.int .i64 at_, .int .i64 x] 67)).grow hprow hgrow (by decide)
          have u1 := ((t1.drew).alloc (.cells #[.int .i64 at_, .int .i64 x] 67)).grow hprow hgrow (by decide)
          have t6F := u6.grown hp2' (fun e => blk_ne hw1o u6 (by decide) e)
          have t7F := u7.grown hp2' (fun e => blk_ne hw1o u7 (by decide) e)
          have t1F := u1.grown hp2' (fun e => blk_ne hw1o u1 (by decide) e)
          have zo := hw1o.frozenAt (K * 9 + 8)
          have dW := (hw1o.cellAt (K * 9 + 8) (by omega)).trans (attsL_get (j := 8) hKl (by decide))
          have HF := hid (And.intro hkoF (And.intro t6F (And.intro t7F (And.intro t1F hp1'))))
          have dE3 := bE.drew.cell 3 (v := .int .i64 at_) rfl
          have dE5 := bE.drew.cell 5 (v := .int .i64 x) rfl
          have dE3' := (bE.drew.alloc (.cells #[.int .i64 at_, .int .i64 x] 67)).cell 3 (v := .int .i64 at_) rfl
          have dE5' := (bE.drew.alloc (.cells #[.int .i64 at_, .int .i64 x] 67)).cell 5 (v := .int .i64 x) rfl
          have dH := ((hh1.drew0).out.cellAt (K * 9 + 8) (by omega)).trans (attsL_get (j := 8) hKl (by decide))
          have dH' := (((hh1.drew0).out.alloc (.cells #[.int .i64 at_, .int .i64 x] 67)).cellAt (K * 9 + 8) (by omega)).trans (attsL_get (j := 8) hKl (by decide))
          obtain ⟨Wd, hWd⟩ : ∃ Wd, Wd = W1.drew := ⟨_, rfl⟩
          obtain ⟨Wt, hWt⟩ : ∃ Wt, Wt = Wd.alloc (.cells #[.int .i64 at_, .int .i64 x] 67) := ⟨_, rfl⟩
          have hWds : Wd.heap.size = W1.heap.size := by rw [hWd]; rfl
          rw [← hWd] at hrun dE3 dE5 dH dE3' dE5' dH'
          rw [← hWt] at hrun dE3' dE5' dH'
          have HWd := hid hWd
          have HWt := hid hWt
          have HRUN := hid hrun
          clear hrun hko t6 t7 t1 hh1 hrow hprow hfr hfs hown' hgrow hnil hblk hp1' hp2' hko3 hkoF hw1o u6 u7 u1 t6F t7F t1F hWd hWt bE
          gi_wp2
          clear c6 c7 z6 z7
          apply wp_round_valsJ [.pointer (some ⟨go, K * 9, none⟩), .pointer (some ⟨go, K * 9, none⟩), .pointer (some ⟨go, K * 9, none⟩), .pointer (some ⟨go, K * 9 + 8, none⟩), H K true, .pointer (some ⟨W.heap.size, 3, none⟩), .int .i64 at_, .pointer (some ⟨W.heap.size, 5, none⟩), .int .i64 x, .agg #[.int .i64 at_, .int .i64 x], .slice (some ⟨W1.heap.size, 0, none⟩) 1 1, .slice (some ⟨gp, 0, none⟩) ((plB at0 true).length + 1) cp, .pointer (some ⟨go, K * 9, none⟩), .pointer (some ⟨go, K * 9 + 8, none⟩), undef] (Seq3 _ 10 11 14 Wd Wt w1 (w1.setCell ⟨go, K * 9 + 8, none⟩ (.slice (some ⟨gp, 0, none⟩) ((plB at0 true).length + 1) cp)))
          focus (simp [putAll, dstOf, Act.put, List.getD]; rfl)
          case hm => kernel_rfl
          case hnd => kernel_rfl
          case hq => rintro ⟨ax, wx, hx⟩; exact hx
          case hd => kernel_rfl
          case hb => kernel_rfl
          case hdep => kernel_rfl
          case hsel => kernel_rfl
          case hng => kernel_rfl
          case hgv => kernel_rfl
          case hsz => kernel_rfl
          case hext => (intro l1 l2 w' hx hG; exact hG.ext (by kernel_rfl) (of_decide_eq_true (by kernel_rfl)) (of_decide_eq_true (by kernel_rfl)) (of_decide_eq_true (by kernel_rfl)) hx)
          case h0 => (rw [← HWd.out]; exact Seq3.start)
          case hstep =>
            refine ⟨?_, ?_, ?_, ?_, ?_, ?_, ?_, ?_, ?_, ?_, ?_, ?_, ?_, ?_, ?_, trivial⟩
            · intro l' w' hl hdp hG
              rw [if_pos (by kernel_rfl)]
              intro K' Qp hK
              have HG := hid (hG.other (i := 0) rfl hdp (by decide) (by decide) (by decide))
              clear hG hl hdp
              go_simp
              exact hK _ HG.out
            · intro l' w' hl hdp hG
              rw [if_pos (by kernel_rfl)]
              intro K' Qp hK
              have HG := hid (hG.other (i := 1) rfl hdp (by decide) (by decide) (by decide))
              clear hG hl hdp
              go_simp
              exact hK _ HG.out
            · intro l' w' hl hdp hG
              rw [if_pos (by kernel_rfl)]
              intro K' Qp hK
              have HG := hid (hG.other (i := 2) rfl hdp (by decide) (by decide) (by decide))
              clear hG hl hdp
              go_simp
              exact hK _ HG.out
            · intro l' w' hl hdp hG
              rw [if_pos (by kernel_rfl)]
              intro K' Qp hK
              have HG := hid (hG.other (i := 3) rfl hdp (by decide) (by decide) (by decide))
              clear hG hl hdp
              go_simp
              exact hK _ HG.out
            · intro l' w' hl hdp hG
              rw [if_pos (by kernel_rfl)]
              intro K' Qp hK
              have hn11 : l' 11 = false := by
                cases h11 : l' 11 with
                | false => rfl
                | true => rw [hG.clo 11 _ 4 rfl h11 rfl] at hl; cases hl
              have HG := hid (hG.other (i := 4) rfl hdp (by decide) (by decide) (by decide))
              have hw : w' = Wd ∨ w' = Wt := by
                cases h10 : l' 10 with
                | false => exact .inl (hG.s0 h10)
                | true => exact .inr (hG.s1 h10 hn11)
              clear hG hl hdp hn11
              rcases hw with rfl | rfl
              · go_simp
                exact hK _ HG.out
              · go_simp
                exact hK _ HG.out
            · intro l' w' hl hdp hG
              rw [if_pos (by kernel_rfl)]
              intro K' Qp hK
              have HG := hid (hG.other (i := 5) rfl hdp (by decide) (by decide) (by decide))
              clear hG hl hdp
              go_simp
              exact hK _ HG.out
            · intro l' w' hl hdp hG
              rw [if_pos (by kernel_rfl)]
              intro K' Qp hK
              have hn11 : l' 11 = false := by
                cases h11 : l' 11 with
                | false => rfl
                | true => rw [hG.clo 9 _ 6 rfl (hG.clo 10 _ 9 rfl (hG.clo 11 _ 10 rfl h11 rfl) rfl) rfl] at hl; cases hl
              have HG := hid (hG.other (i := 6) rfl hdp (by decide) (by decide) (by decide))
              have hw : w' = Wd ∨ w' = Wt := by
                cases h10 : l' 10 with
                | false => exact .inl (hG.s0 h10)
                | true => exact .inr (hG.s1 h10 hn11)
              clear hG hl hdp hn11
              rcases hw with rfl | rfl
              · go_simp
                exact hK _ HG.out
              · go_simp
                exact hK _ HG.out
            · intro l' w' hl hdp hG
              rw [if_pos (by kernel_rfl)]
              intro K' Qp hK
              have HG := hid (hG.other (i := 7) rfl hdp (by decide) (by decide) (by decide))
              clear hG hl hdp
              go_simp
              exact hK _ HG.out
            · intro l' w' hl hdp hG
              rw [if_pos (by kernel_rfl)]
              intro K' Qp hK
              have hn11 : l' 11 = false := by
                cases h11 : l' 11 with
                | false => rfl
                | true => rw [hG.clo 9 _ 8 rfl (hG.clo 10 _ 9 rfl (hG.clo 11 _ 10 rfl h11 rfl) rfl) rfl] at hl; cases hl
              have HG := hid (hG.other (i := 8) rfl hdp (by decide) (by decide) (by decide))
              have hw : w' = Wd ∨ w' = Wt := by
                cases h10 : l' 10 with
                | false => exact .inl (hG.s0 h10)
                | true => exact .inr (hG.s1 h10 hn11)
              clear hG hl hdp hn11
              rcases hw with rfl | rfl
              · go_simp
                exact hK _ HG.out
              · go_simp
                exact hK _ HG.out
            · intro l' w' hl hdp hG
              rw [if_pos (by kernel_rfl)]
              intro K' Qp hK
              have HG := hid (hG.other (i := 9) rfl hdp (by decide) (by decide) (by decide))
              clear hG hl hdp
              go_simp
              exact hK _ HG.out
            · intro l' w' hl hdp hG
              rw [if_pos (by kernel_rfl)]
              intro K' Qp hK
              obtain ⟨rfl, hG'⟩ := hG.first rfl hdp hl (fun h11 => hG.clo 11 _ 10 rfl h11 rfl) (fun h14 => hG.clo 14 _ 11 rfl h14 rfl) (by decide) (by decide)
              have HG := hid hG'
              clear hG hl hdp hG'
              go_simp
              rw [← HWt.out]
              exact hK _ HG.out
            · intro l' w' hl hdp hG
              rw [if_pos (by kernel_rfl)]
              intro K' Qp hK
              obtain ⟨rfl, hG'⟩ := hG.second rfl hdp hl (hdp 10 rfl) (fun h14 => hG.clo 14 _ 11 rfl h14 rfl) (by decide) (by decide)
              have HG := hid hG'
              clear hG hl hdp hG'
              refine OpY.wp (opY_append (s := .tmp 76) (x := .tmp 82) (t := 25) rfl (vs := H K true) (vx := .slice (some ⟨W1.heap.size, 0, none⟩) 1 1) rfl rfl HRUN.out (hK _ HG.out))
            · intro l' w' hl hdp hG
              rw [if_pos (by kernel_rfl)]
              intro K' Qp hK
              have HG := hid (hG.other (i := 12) rfl hdp (by decide) (by decide) (by decide))
              clear hG hl hdp
              go_simp
              exact hK _ HG.out
            · intro l' w' hl hdp hG
              rw [if_pos (by kernel_rfl)]
              intro K' Qp hK
              have HG := hid (hG.other (i := 13) rfl hdp (by decide) (by decide) (by decide))
              clear hG hl hdp
              go_simp
              exact hK _ HG.out
            · intro l' w' hl hdp hG
              rw [if_pos (by kernel_rfl)]
              intro K' Qp hK
              obtain ⟨rfl, hG'⟩ := hG.third rfl hdp hl (hdp 11 rfl) (hG.clo 11 _ 10 rfl (hdp 11 rfl) rfl) (by decide) (by decide)
              have HG := hid hG'
              clear hG hl hdp hG'
              go_simp
              exact hK _ HG.out
          case hdone =>
            intro w' hG
            obtain rfl := hG.done
            clear hG
            gi_wp2
            obtain ⟨hko, t6, t7, t1, hh2⟩ := HF.out
            exact ⟨(hko).1.from _, ⟨(hko).2, (hko).1.walks⟩, ⟨.slice (some ⟨go, 0, none⟩) h.out.length co, .slice (some ⟨gw, 0, none⟩) h.out.length cw, _, t6, t7, hh2.as (by first | exact (congrArg (h.out.set K) hTA.symm) | exact rfl) (by first | exact ((set_same hk2).symm.trans (congrArg (h.owned.set K) hTO.symm)) | exact (set_same hk2).symm)⟩, t1, HHB.out.trans (hko).2⟩
        · subst kx
          have hTA : turnA at0 oo ⟨9, th, tx, at_, v, x, why⟩ (k : Int) = { at0 with to_ := if oo - 1 = 0 then (k : Int) else at0.to_ } := rfl
          have hTO : turnO oo ⟨9, th, tx, at_, v, x, why⟩ = oo - 1 := rfl
          have hc2 := hh1.count (k := K) (oo - 1)
          have hko2 := hko.set (b := gw) (o := K) hwb (.int .i64 (oo - 1))
          have t62 := t6.grown hc2.2 (fun e => blk_ne hh1.own t6 (by decide) e)
          have t72 := t7.grown hc2.2 (fun e => blk_ne hh1.own t7 (by decide) e)
          have t12 := t1.grown hc2.2 (fun e => blk_ne hh1.own t1 (by decide) e)
          have wr : IntKind.i64.wrap (oo - 1) = oo - 1 := IntWalk.i64_in _ (by omega)
          by_cases hz : oo - 1 = 0
          · rw [if_pos hz] at hTA
            have z1 : (oo - 1 == 0) = true := by rw [hz]; rfl
            clear hz
            have hf := HistAt.field (h := ⟨h.last, h.out, h.owned.set K (oo - 1)⟩) (k := K) (j := 3) (a' := { at0 with to_ := (k : Int) }) (u := .int .i64 (k : Int)) hc2.1 hKl (by decide) (by rw [hGet]; rfl) (by intro b; rw [hGet]; cases b <;> rfl)
            have hkoF := hko2.set (b := go) (o := K * 9 + 3) hgb (.int .i64 (k : Int))
            have t6F := t62.grown hf.2 (fun e => blk_ne hc2.1.out t62 (by decide) e)
            have t7F := t72.grown hf.2 (fun e => blk_ne hc2.1.out t72 (by decide) e)
            have t1F := t12.grown hf.2 (fun e => blk_ne hc2.1.out t12 (by decide) e)
            have HF := hid (And.intro hkoF (And.intro t6F (And.intro t7F (And.intro t1F hf.1))))
            clear hko t6 t7 t1 hh1 hko2 t62 t72 t12 hc2 hkoF t6F t7F t1F hf
            gi_wp2
            obtain ⟨hko, t6, t7, t1, hh2⟩ := HF.out
            exact ⟨(hko).1.from _, ⟨(hko).2, (hko).1.walks⟩, ⟨.slice (some ⟨go, 0, none⟩) h.out.length co, .slice (some ⟨gw, 0, none⟩) h.out.length cw, H, t6, t7, hh2.as (by first | exact (congrArg (h.out.set K) hTA.symm) | exact rfl) (by first | exact (congrArg (h.owned.set K) hTO.symm) | exact rfl)⟩, t1, HHB.out.trans (hko).2⟩
          · rw [if_neg hz] at hTA
            have z1 : (oo - 1 == 0) = false := beq_eq_false_iff_ne.2 hz
            clear hz
            have HF := hid (And.intro hko2 (And.intro t62 (And.intro t72 (And.intro t12 hc2.1))))
            clear hko t6 t7 t1 hh1 hko2 t62 t72 t12 hc2 
            gi_wp2
            obtain ⟨hko, t6, t7, t1, hh2⟩ := HF.out
            exact ⟨(hko).1.from _, ⟨(hko).2, (hko).1.walks⟩, ⟨.slice (some ⟨go, 0, none⟩) h.out.length co, .slice (some ⟨gw, 0, none⟩) h.out.length cw, H, t6, t7, hh2.as (by first | exact ((set_same hk1).symm.trans (congrArg (h.out.set K) hTA.symm)) | exact (set_same hk1).symm) (by first | exact (congrArg (h.owned.set K) hTO.symm) | exact rfl)⟩, t1, HHB.out.trans (hko).2⟩
        · subst kx
          have hTA : turnA at0 oo ⟨10, th, tx, at_, v, x, why⟩ (k : Int) = { at0 with to_ := if oo = 0 then (k : Int) else at0.to_ } := rfl
          have hTO : turnO oo ⟨10, th, tx, at_, v, x, why⟩ = oo := rfl
          by_cases hz : oo = 0
          · rw [if_pos hz] at hTA
            have z1 : (oo == 0) = true := by rw [hz]; rfl
            clear hz
            have hf := HistAt.field (k := K) (j := 3) (a' := { at0 with to_ := (k : Int) }) (u := .int .i64 (k : Int)) hh1 hKl (by decide) (by rw [hGet]; rfl) (by intro b; rw [hGet]; cases b <;> rfl)
            have hkoF := hko.set (b := go) (o := K * 9 + 3) hgb (.int .i64 (k : Int))
            have t6F := t6.grown hf.2 (fun e => blk_ne hh1.out t6 (by decide) e)
            have t7F := t7.grown hf.2 (fun e => blk_ne hh1.out t7 (by decide) e)
            have t1F := t1.grown hf.2 (fun e => blk_ne hh1.out t1 (by decide) e)
            have HF := hid (And.intro hkoF (And.intro t6F (And.intro t7F (And.intro t1F hf.1))))
            clear hko t6 t7 t1 hh1 hkoF t6F t7F t1F hf
            gi_wp2
            obtain ⟨hko, t6, t7, t1, hh2⟩ := HF.out
            exact ⟨(hko).1.from _, ⟨(hko).2, (hko).1.walks⟩, ⟨.slice (some ⟨go, 0, none⟩) h.out.length co, .slice (some ⟨gw, 0, none⟩) h.out.length cw, H, t6, t7, hh2.as (by first | exact (congrArg (h.out.set K) hTA.symm) | exact rfl) (by first | exact ((set_same hk2).symm.trans (congrArg (h.owned.set K) hTO.symm)) | exact (set_same hk2).symm)⟩, t1, HHB.out.trans (hko).2⟩
          · rw [if_neg hz] at hTA
            have z1 : (oo == 0) = false := beq_eq_false_iff_ne.2 hz
            clear hz
            have HF := hid (And.intro hko (And.intro t6 (And.intro t7 (And.intro t1 hh1))))
            clear hko t6 t7 t1 hh1 
            gi_wp2
            obtain ⟨hko, t6, t7, t1, hh2⟩ := HF.out
            exact ⟨(hko).1.from _, ⟨(hko).2, (hko).1.walks⟩, ⟨.slice (some ⟨go, 0, none⟩) h.out.length co, .slice (some ⟨gw, 0, none⟩) h.out.length cw, H, t6, t7, hh2.as (by first | exact ((set_same hk1).symm.trans (congrArg (h.out.set K) hTA.symm)) | exact (set_same hk1).symm) (by first | exact ((set_same hk2).symm.trans (congrArg (h.owned.set K) hTO.symm)) | exact (set_same hk2).symm)⟩, t1, HHB.out.trans (hko).2⟩
        · subst kx
          have hTA : turnA at0 oo ⟨11, th, tx, at_, v, x, why⟩ (k : Int) = { at0 with to_ := if oo - 1 = 0 then (k : Int) else at0.to_ } := rfl
          have hTO : turnO oo ⟨11, th, tx, at_, v, x, why⟩ = oo - 1 := rfl
          have hc2 := hh1.count (k := K) (oo - 1)
          have hko2 := hko.set (b := gw) (o := K) hwb (.int .i64 (oo - 1))
          have t62 := t6.grown hc2.2 (fun e => blk_ne hh1.own t6 (by decide) e)
          have t72 := t7.grown hc2.2 (fun e => blk_ne hh1.own t7 (by decide) e)
          have t12 := t1.grown hc2.2 (fun e => blk_ne hh1.own t1 (by decide) e)
          have wr : IntKind.i64.wrap (oo - 1) = oo - 1 := IntWalk.i64_in _ (by omega)
          by_cases hz : oo - 1 = 0
          · rw [if_pos hz] at hTA
            have z1 : (oo - 1 == 0) = true := by rw [hz]; rfl
            clear hz
            have hf := HistAt.field (h := ⟨h.last, h.out, h.owned.set K (oo - 1)⟩) (k := K) (j := 3) (a' := { at0 with to_ := (k : Int) }) (u := .int .i64 (k : Int)) hc2.1 hKl (by decide) (by rw [hGet]; rfl) (by intro b; rw [hGet]; cases b <;> rfl)
            have hkoF := hko2.set (b := go) (o := K * 9 + 3) hgb (.int .i64 (k : Int))
            have t6F := t62.grown hf.2 (fun e => blk_ne hc2.1.out t62 (by decide) e)
            have t7F := t72.grown hf.2 (fun e => blk_ne hc2.1.out t72 (by decide) e)
            have t1F := t12.grown hf.2 (fun e => blk_ne hc2.1.out t12 (by decide) e)
            have HF := hid (And.intro hkoF (And.intro t6F (And.intro t7F (And.intro t1F hf.1))))
            clear hko t6 t7 t1 hh1 hko2 t62 t72 t12 hc2 hkoF t6F t7F t1F hf
            gi_wp2
            obtain ⟨hko, t6, t7, t1, hh2⟩ := HF.out
            exact ⟨(hko).1.from _, ⟨(hko).2, (hko).1.walks⟩, ⟨.slice (some ⟨go, 0, none⟩) h.out.length co, .slice (some ⟨gw, 0, none⟩) h.out.length cw, H, t6, t7, hh2.as (by first | exact (congrArg (h.out.set K) hTA.symm) | exact rfl) (by first | exact (congrArg (h.owned.set K) hTO.symm) | exact rfl)⟩, t1, HHB.out.trans (hko).2⟩
          · rw [if_neg hz] at hTA
            have z1 : (oo - 1 == 0) = false := beq_eq_false_iff_ne.2 hz
            clear hz
            have HF := hid (And.intro hko2 (And.intro t62 (And.intro t72 (And.intro t12 hc2.1))))
            clear hko t6 t7 t1 hh1 hko2 t62 t72 t12 hc2 
            gi_wp2
            obtain ⟨hko, t6, t7, t1, hh2⟩ := HF.out
            exact ⟨(hko).1.from _, ⟨(hko).2, (hko).1.walks⟩, ⟨.slice (some ⟨go, 0, none⟩) h.out.length co, .slice (some ⟨gw, 0, none⟩) h.out.length cw, H, t6, t7, hh2.as (by first | exact ((set_same hk1).symm.trans (congrArg (h.out.set K) hTA.symm)) | exact (set_same hk1).symm) (by first | exact (congrArg (h.owned.set K) hTO.symm) | exact rfl)⟩, t1, HHB.out.trans (hko).2⟩
        · subst kx
          have hTA : turnA at0 oo ⟨12, th, tx, at_, v, x, why⟩ (k : Int) = { at0 with to_ := (k : Int) } := rfl
          have hTO : turnO oo ⟨12, th, tx, at_, v, x, why⟩ = oo := rfl
          have hf := HistAt.field (k := K) (j := 3) (a' := { at0 with to_ := (k : Int) }) (u := .int .i64 (k : Int)) hh1 hKl (by decide) (by rw [hGet]; rfl) (by intro b; rw [hGet]; cases b <;> rfl)
          have hkoF := hko.set (b := go) (o := K * 9 + 3) hgb (.int .i64 (k : Int))
          have t6F := t6.grown hf.2 (fun e => blk_ne hh1.out t6 (by decide) e)
          have t7F := t7.grown hf.2 (fun e => blk_ne hh1.out t7 (by decide) e)
          have t1F := t1.grown hf.2 (fun e => blk_ne hh1.out t1 (by decide) e)
          have HF := hid (And.intro hkoF (And.intro t6F (And.intro t7F (And.intro t1F hf.1))))
          clear hko t6 t7 t1 hh1 hkoF t6F t7F t1F hf
          gi_wp2
          obtain ⟨hko, t6, t7, t1, hh2⟩ := HF.out
          exact ⟨(hko).1.from _, ⟨(hko).2, (hko).1.walks⟩, ⟨.slice (some ⟨go, 0, none⟩) h.out.length co, .slice (some ⟨gw, 0, none⟩) h.out.length cw, H, t6, t7, hh2.as (by first | exact (congrArg (h.out.set K) hTA.symm) | exact rfl) (by first | exact ((set_same hk2).symm.trans (congrArg (h.owned.set K) hTO.symm)) | exact (set_same hk2).symm)⟩, t1, HHB.out.trans (hko).2⟩
  case hdone =>
    rintro D W hD ⟨⟨vo, vw, H, h6, h7, hh⟩, h1, hB⟩ hK
    have hvc := h6.cell 0 (v := vo) rfl
    gi_wp2
    refine ⟨by simp, .inl ⟨_, _, rfl, run_takeDeferred hK, ?_⟩⟩
    refine ⟨.tuple #[vo, .int .i64 0], by simp [results, Tryd.results13, go_sem], ?_⟩
    rw [List.take_length] at hh
    refine HP.out vo _ (hB.trans (belowK_b (Nat.le_of_lt HSZ.out.2) W D _ _ (by have := HSZ.out; omega) hK rfl rfl)) ⟨H, ownsRow_putObj hh.out (.deferred none) hK rfl, fun k b hk => ownsRow_putObj (hh.rows k b hk) (.deferred none) hK rfl⟩
end Go.Proofs.YtnmbacleaijhmaaDoor
/-
  Walks: history.Of and history.Split, whatever the trace.
-/
namespace Go.Proofs.YtnmbacleaijhmaaDoor
set_option linter.unusedVariables false
open Go Go.RowKit
theorem of_any (T V S : Int) (a : Option Addr) (l : List Ev) (cap : Nat) (w : World) (hE : EvsAt w a l) (hK : KindsAt w) (hT : TabOk w) : Calls Tryd.prog 13 #[trA T V S a l.length cap] w (OfP T V S l w) := by
  by_cases hc : (checkT T V S l).2 = 0
  · exact of_ok T V S a l cap w hE hK hT hc
  · exact of_no T V S a l cap w hE hK hT hc
theorem split_any (T V S : Int) (a : Option Addr) (l : List Ev) (cap : Nat) (w : World) (hE : EvsAt w a l) (hK : KindsAt w) (hT : TabOk w) : Calls Tryd.prog 23 #[trA T V S a l.length cap] w (SplitP T V S l w) := by
  by_cases hc : (checkT T V S l).2 = 0
  · exact split_ok T V S a l cap w hE hK hT hc
  · exact split_no T V S a l cap w hE hK hT hc
end Go.Proofs.YtnmbacleaijhmaaDoor
