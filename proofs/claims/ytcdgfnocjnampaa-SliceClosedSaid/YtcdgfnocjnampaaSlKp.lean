/-
  Walk: slice.Kept.
-/
import Derived.Test.YtcdgfnocjnampaaSlK
namespace Go.Proofs.Ytcdgfnocjnampaa
set_option linter.unusedVariables false
set_option linter.unusedSimpArgs false
set_option linter.unusedVariables false
open Go Go.RowKit
attribute [local go_sem] Oper.semAt_some
def lenV : Value → Nat
  | .slice _ n _ => n
  | _ => 0
def lenC : Option Value → Nat
  | some v => lenV v
  | none => 0
def RdI (w : World) (l : List Int) (v : Value) : Prop := ∃ a cap, v = .slice a l.length cap ∧ l.length ≤ 9223372036854775807 ∧ (∀ y ∈ l, B64 y) ∧ (l ≠ [] → ∃ b o, a = some ⟨b, o, none⟩ ∧ ∀ k (h : k < l.length), w.cell? ⟨b, o + k, none⟩ = some (.int .i64 l[k])) ∧ (a = none → cap = 0)
theorem RdI.below {w w' : World} (hb : Below w.heap.size w w') {l : List Int} {v : Value} (h : RdI w l v) : RdI w' l v := by
  obtain ⟨a, cap, h1, h2, h3, h4, h0⟩ := h
  refine ⟨a, cap, h1, h2, h3, fun hn => ?_, h0⟩
  obtain ⟨b, o, h5, h6⟩ := h4 hn
  exact ⟨b, o, h5, fun k hk => later hb (h6 k hk)⟩
def vf (L : List Att) (v : Int) : Option Nat := if 0 ≤ writerL L v (topL L) then some (writerL L v (topL L)).toNat else none
theorem rootsV_take (L : List Att) (vars : List Int) (k : Nat) (h : k < vars.length) : rootsV L (vars.take (k + 1)) = rootsV L (vars.take k) ++ (vf L vars[k]).toList := by
  unfold rootsV
  rw [List.take_succ_eq_append_getElem h, List.filterMap_append]
  simp only [List.filterMap_cons, List.filterMap_nil]
  by_cases h0 : 0 ≤ writerL L vars[k] (topL L) <;> simp [vf, h0]
def of_ (L : List Att) (i : Nat) : Bool := openB (L.getD i Att.zero)
theorem rootsO_take (L : List Att) (k : Nat) : (List.range (k + 1)).filter (of_ L) = (List.range k).filter (of_ L) ++ (if of_ L k = true then [k] else []) := by
  rw [List.range_succ, List.filter_append]
  simp only [List.filter_cons, List.filter_nil]
theorem qrow_shape {e n₀ : Nat} {W : World} {v : Value} {xs : List Int} (h : QRow e n₀ W v xs) : ∃ a n c, v = .slice a n c := by
  obtain ⟨a, c, h⟩ := h.shape
  exact ⟨a, _, c, h⟩
theorem infoI : (Try.prog.info? 3).map (fun i => (i.zero, i.size, i.bytes)) = some (some (.int .i64 0), 1, 8) := by kernel_rfl
theorem kw_new (w : World) : KW w w.heap.size (.slice none 0 0) [] [] [] (.slice none 0 0) (w.alloc (.cells #[.slice none 0 0] 23)) :=
  ⟨Blk.new _ _ _, QRow.nil _ _ _, World.ownsRow_nil _ _ _ _, fun g h => by simp [Value.ownBlock] at h, ext_alloc (ext_refl _) _, ⟨List.nodup_nil, fun D h => by simp at h⟩, fun D h => by simp at h⟩
theorem cell_new_one (w : World) (v : Value) (t : TypeId) : (w.alloc (.cells #[v] t)).cell? ⟨w.heap.size, 0, none⟩ = some v := (Blk.new w #[v] t).cell 0 rfl
theorem rootsV_len (L : List Att) (vars : List Int) (k : Nat) : (rootsV L (vars.take k)).length ≤ (roots L vars).length := by
  unfold roots
  rw [List.length_append]
  have := ((List.take_sublist k vars).filterMap (fun v : Int => if 0 ≤ writerL L v (topL L) then some (writerL L v (topL L)).toNat else none)).length_le
  show ((vars.take k).filterMap _).length ≤ (vars.filterMap _).length + _
  omega
theorem rootsO_len (L : List Att) (vars : List Int) {k : Nat} (hk : k ≤ L.length) : (rootsV L vars ++ (List.range k).filter (of_ L)).length ≤ (roots L vars).length := by
  unfold roots
  rw [List.length_append, List.length_append]
  have := ((List.range_sublist.2 hk).filter (of_ L)).length_le
  show _ + _ ≤ _ + ((List.range L.length).filter (of_ L)).length
  omega
theorem KW.meas {w0 : World} {bx : Nat} {vo : Value} {Ds todo out : List Nat} {v : Value} {W : World} (h : KW w0 bx vo Ds todo out v W) : lenV vo = out.length ∧ lenC (W.cell? ⟨bx, 0, none⟩) = todo.length := by
  constructor
  · rcases h.out.2 with ⟨rfl, hn⟩ | ⟨g, cap, cur, rfl, _⟩
    · exact hn.symm
    · rfl
  · rw [h.box.cell 0 (v := v) rfl]
    obtain ⟨a, c, rfl⟩ := h.todo.shape
    exact natI_len _
theorem KW.pushed_keeps {w0 : World} {bx : Nat} {vo : Value} {Ds todo out : List Nat} {v : Value} {W W1 : World} (h : KW w0 bx vo Ds todo out v W) {o : Obj} (hg : (W.alloc o).grownBy W1 v.ownBlock) (hbx : w0.heap.size ≤ bx) (v' : Value) :
    KeepsOthers W (W1.setCell ⟨bx, 0, none⟩ v') ∧ Below w0.heap.size W (W1.setCell ⟨bx, 0, none⟩ v') ∧ ∀ b cs t, t ≠ 3 → t ≠ 23 → Blk W b cs t → Blk (W1.setCell ⟨bx, 0, none⟩ v') b cs t := by
  have hv := (h.todo.alloc o).lt
  have hgs : W1.grownBy (W1.setCell ⟨bx, 0, none⟩ v') (some bx) := ⟨rfl, rfl, rfl, by simp [World.setCell], fun k _ hk => Below.heap_setCell _ _ _ k (fun e => hk (by rw [e]))⟩
  have hle := h.low.size
  refine ⟨((KeepsOthers.alloc _ _).trans (KeepsOthers.of_grownBy hg fun j o' ej hj => ?_)).trans (KeepsOthers.setCell _ _ _), ((((Below.refl _ W).alloc hle o).grown hg (by rw [World.size_alloc]; omega) (fun k e => (hv k e).1))).setCell (p := ⟨bx, 0, none⟩) hbx v', fun b cs t h1 h2 hb => ?_⟩
  · obtain ⟨_, _, cur, hc⟩ := hv j ej
    rw [hc] at hj; cases hj; rfl
  · have hb1 := hb.alloc o
    have hb2 := hb1.grew hg ((h.todo.alloc o).ne hb1 h1)
    refine hb2.set_other _ _ (fun e => ?_)
    have hbx' := (h.box.alloc o).grew hg ((h.todo.alloc o).ne (h.box.alloc o) (by decide))
    unfold Blk at hbx' hb2
    rw [e] at hb2
    rw [hbx'] at hb2
    injection hb2 with hb2
    injection hb2 with _ e2 _
    exact h2 e2.symm
def askK (L : List Att) (a : Att) (k : Nat) : Nat := (asked L a).getD k 0
/-- What a range over asked may lean on. -/
theorem asked_runs (n : Nat) (hn : 1 ≤ n) (B1 B2 : Nat) (L : List Att) (sv : Value) (a : Att) (r u : Value) (w0 W4 : World) (hL : RdAtts w0 L sv) (ha : RdPairs w0 a.reads r) (ha' : RdPairs w0 a.writes u) (hb : Below w0.heap.size w0 W4)
    (h1 : Blk W4 B1 (attC a r u) 29) (h2 : Blk W4 B2 #[sv] 22) :
    SeqRuns Fence.wide n Try.prog 24 #[.pointer (some ⟨B1, 0, none⟩), .pointer (some ⟨B2, 0, none⟩)] (fun k => #[.int .i64 (askK L a k : Nat)]) (asked L a).length (KeepA w0.heap.size B1 B2 (attC a r u) #[sv]) W4 := by
  intro l J W hW hab hY h0
  exact asked_in n hn l B1 B2 L sv a r u w0 J W hab hL ha ha' (ext_trans hb hW) hY (h1.below hW) (h2.below hW) h0
set_option maxRecDepth 100000 in
set_option maxHeartbeats 8000000 in
theorem kept_any (L : List Att) (vars : List Int) (w : World) (vl vv : Value) (hL : RdAtts w L vl) (hV : RdI w vars vv) (hbig : (roots L vars).length + L.length * askN L ≤ 1000000000000) (hlen : L.length ≤ 1000000000) :
    Calls Try.prog 7 #[vl, vv] w fun e w' => ∃ v, e = .returned v ∧ w'.ownsRow w.heap.size 3 1 v (keptL L vars).length (natV (keptL L vars)) ∧ Below w.heap.size w w' := by
  obtain ⟨x, cap, rfl, hLl, hx⟩ := id hL
  obtain ⟨y, ycap, rfl, hVl, hVo, hy, -⟩ := id hV
  obtain ⟨i0, hi0, hz0, hz1, hz2⟩ := info_parts infoI
  have HX := hid hx
  have HY := hid hy
  have HL := hid hL
  have HV := hid hV
  have HBIG := hid hbig
  have HN := hid hlen
  have hn0 : w.heap.size ≤ w.heap.size := Nat.le_refl _
  clear hx hy hL hV hbig hVo hlen
  refine (callsIn_wide (n := 4)).1 ?_
  refine callsIn_of_wp_marks Try.func7 rfl trivial ?_ rfl
  simp only [Try.ntmps7, List.size_toArray, List.length_cons, List.length_nil, Nat.reduceAdd, Nat.reduceSub, Array.replicate_succ, Array.replicate_zero, List.push_toArray, List.append_toArray, List.nil_append, List.cons_append]
  gi_wp2_with (refine ⟨trivial, ?_⟩; gi_at_call 12; refine (callsIn_wide.2 (top_any L _ _ (HL.out.below (ext_alloc (ext_refl _) (.cells #[.slice none 0 0] 23))))).mono ?_; rintro e' w1 ⟨rfl, hb1⟩)
  have HK0 := hid ((kw_new w).still hb1)
  clear hb1
  gi_loopw [21] (fun i wr => ∃ (k : Nat) (v : Value), k ≤ vars.length ∧ i = .int .i64 (k : Int) ∧ Hid (KW w w.heap.size (.slice none 0 0) [] (rootsV L (vars.take k)) [] v wr)) (fun i _ => vars.length - (intOf i).toNat)
  case atStart => exact ⟨0, _, Nat.zero_le _, rfl, HK0⟩
  case round =>
    obtain ⟨k, v, hk, rfl, HK⟩ := hrel
    by_cases hlt : k < vars.length
    · obtain ⟨b, o, rfl, hcell⟩ := HY.out (by intro h; rw [h] at hlt; simp at hlt)
      have d0 := later HK.out.low (hcell k hlt)
      have hbl := lt_of_cell d0
      have c0 := HK.out.box.cell 0 (v := v) rfl
      have j1 : decide ((k : Int) < (vars.length : Int)) = true := by rw [decide_eq_true_iff]; omega
      have j2 : (0 : Int) ≤ (k : Int) := by omega
      have j3 : IntKind.i64.wrap ((k : Int) + 1) = (k : Int) + 1 := IntWalk.i64_in _ (by omega)
      have j4 : decide (k < vars.length) = true := by rw [decide_eq_true_iff]; omega
      have HT := hid (rootsV_take L vars k hlt)
      have HF : Hid (vf L vars[k] = if 0 ≤ writerL L vars[k] (topL L) then some (writerL L vars[k] (topL L)).toNat else none) := hid rfl
      have HLT := hid hlt
      have HW := hid (writer_any L vars[k] (topL L) wr _ (HL.out.below HK.out.low))
      generalize writerL L vars[k] (topL L) = q at HW HF
      generalize vf L vars[k] = vk at HT HF
      clear hcell
      by_cases hq : (0 : Int) ≤ q
      · obtain ⟨m, rfl⟩ : ∃ m : Nat, q = (m : Int) := ⟨q.toNat, by omega⟩
        have hvk : vk = some m := by rw [HF.out, if_pos hq]; simp
        gi_wp2_with (first
          | (refine ⟨trivial, ?_⟩; gi_at_call 13; refine (callsIn_wide.2 HW.out).mono ?_; rintro e' w2 ⟨rfl, hb2⟩; have HK2 := hid (HK.out.still hb2); have c2 := HK2.out.box.cell 0 (v := v) rfl)
          | (gi_at_builtin; refine wpListIn_append_q _ rfl _ _ 23 rfl w.heap.size 3 i0 Try.underlying23 hi0 hz0 hz1 hz2 v _ rfl (HK2.out.todo.alloc _) ⟨w2.heap.size, 0, none⟩ 1 (m : Int) rfl (cell_new_one _ _ _) (by rw [natI_len]; have := rootsV_len L vars k; have := HBIG.out; omega) (by rw [World.size_alloc]; have := HK2.out.low.size; omega) ?_; intro v' w3 hq3 hg3 ho3; obtain ⟨HK3, HX3⟩ := (HK2.out.still (ext_alloc (ext_refl _) _)).pushed hq3 hg3 ho3 hn0; obtain ⟨sa, sn, sc, rfl⟩ := qrow_shape hq3; have c3 := HX3.cell 0 (v := v) rfl; have f3 := HX3.free 0; have HK3 := hid HK3; clear hq3 hg3 ho3))
        go_roundw
        case rel => exact ⟨k + 1, _, HLT.out, by simp, hid (by rw [HT.out, hvk]; exact HK3.out)⟩
        case measure => have := HLT.out; simp [intOf]; omega
      · have hvk : vk = none := by rw [HF.out, if_neg hq]
        have hq' : decide ((0 : Int) ≤ q) = false := decide_eq_false hq
        gi_wp2_with (first
          | (refine ⟨trivial, ?_⟩; gi_at_call 13; refine (callsIn_wide.2 HW.out).mono ?_; rintro e' w2 ⟨rfl, hb2⟩; have HK2 := hid (HK.out.still hb2)))
        go_roundw
        case rel => exact ⟨k + 1, _, HLT.out, by simp, hid (by rw [HT.out, hvk]; simpa using HK2.out)⟩
        case measure => have := HLT.out; simp [intOf]; omega
    · obtain rfl : k = vars.length := by omega
      have HK1 : Hid (KW w w.heap.size (.slice none 0 0) [] (rootsV L vars ++ (List.range 0).filter (of_ L)) [] v wr) := hid (by have := HK.out; rw [List.take_length] at this; simpa using this)
      have j1 : decide ((vars.length : Int) < (vars.length : Int)) = false := by rw [decide_eq_false_iff_not]; omega
      have j4 : decide (vars.length < vars.length) = false := by rw [decide_eq_false_iff_not]; omega
      gi_wp2_with fail
      clear HK j1 j4
      gi_loopw [38] (fun i wr => ∃ (k : Nat) (v : Value), k ≤ L.length ∧ i = .int .i64 (k : Int) ∧ Hid (KW w w.heap.size (.slice none 0 0) [] (rootsV L vars ++ (List.range k).filter (of_ L)) [] v wr)) (fun i _ => L.length - (intOf i).toNat)
      case atStart => exact ⟨0, _, Nat.zero_le _, rfl, HK1⟩
      case round =>
        clear HK1
        obtain ⟨k, v, hk, rfl, HK⟩ := hrel
        by_cases hlt : k < L.length
        · obtain ⟨b, o, rfl, hcell⟩ := HX.out (by intro h; rw [h] at hlt; simp at hlt)
          obtain ⟨r9, u9, hc⟩ := hcell k hlt
          have hc := hc.below HK.out.low
          obtain ⟨a7, k7, hr7⟩ := hc.reads.shape
          obtain ⟨a8, k8, hr8⟩ := hc.writes.shape
          subst hr7 hr8
          have d0 := hc.c0
          have d1 := hc.c1
          have d2 := hc.c2
          have d3 := hc.c3
          have d4 := hc.c4
          have d5 := hc.c5
          have d6 := hc.c6
          have d7 := hc.c7
          have d8 := hc.c8
          have hbl := lt_of_cell d0
          have j1 : decide ((k : Int) < (L.length : Int)) = true := by rw [decide_eq_true_iff]; omega
          have j2 : (0 : Int) ≤ (k : Int) := by omega
          have j3 : IntKind.i64.wrap ((k : Int) + 1) = (k : Int) + 1 := IntWalk.i64_in _ (by omega)
          have j4 : decide (k < L.length) = true := by rw [decide_eq_true_iff]; omega
          have HLT := hid hlt
          have HT := hid (rootsO_take L k)
          have HTF : Hid (of_ L k = (decide (0 < L[k].wv) && decide (L[k].to_ = -1))) := hid (by
            show openB (L.getD k Att.zero) = _
            rw [List.getD_eq_getElem?_getD, List.getElem?_eq_getElem hlt]; rfl)
          have hlb := HK.out.box.lt
          have hA := ext_alloc (ext_refl wr) (.cells #[.int .i64 L[k].th, .int .i64 L[k].tx, .int .i64 L[k].from_, .int .i64 L[k].to_, .int .i64 L[k].rv, .int .i64 L[k].wv, .bool L[k].com, .slice a7 L[k].reads.length k7, .slice a8 L[k].writes.length k8] 29)
          have HK2 := hid (HK.out.still hA)
          have c2 := HK2.out.box.cell 0 (v := v) rfl
          have c3 := HK.out.box.cell 0 (v := v) rfl
          generalize of_ L k = tfk at HT HTF
          generalize L[k].wv = cwv at *
          generalize L[k].to_ = cto at *
          clear hc hcell hA
          by_cases h1 : (0 : Int) < cwv
          · by_cases h2 : cto = -1
            · subst h2
              have htk : tfk = true := by rw [HTF.out]; simp [h1]
              gi_wp2_with (gi_at_builtin; refine wpListIn_append_q _ rfl _ _ 23 rfl w.heap.size 3 i0 Try.underlying23 hi0 hz0 hz1 hz2 v _ rfl (HK2.out.todo.alloc _) ⟨wr.heap.size + 1, 0, none⟩ 1 (k : Int) rfl (by have := cell_new_one (wr.alloc (.cells #[.int .i64 L[k].th, .int .i64 L[k].tx, .int .i64 L[k].from_, .int .i64 (-1), .int .i64 L[k].rv, .int .i64 cwv, .bool L[k].com, .slice a7 L[k].reads.length k7, .slice a8 L[k].writes.length k8] 29)) (.int .i64 (k : Int)) 3; rwa [World.size_alloc] at this) (by rw [natI_len]; have := rootsO_len L vars (Nat.le_of_lt HLT.out); have := HBIG.out; omega) (by rw [World.size_alloc]; have := HK2.out.low.size; omega) ?_; intro v' w3 hq3 hg3 ho3; obtain ⟨HK3, HX3⟩ := (HK2.out.still (ext_alloc (ext_refl _) _)).pushed hq3 hg3 ho3 hn0; obtain ⟨sa, sn, sc, rfl⟩ := qrow_shape hq3; have c3 := HX3.cell 0 (v := v) rfl; have f3 := HX3.free 0; have HK3 := hid HK3; clear hq3 hg3 ho3)
              go_roundw
              case rel => exact ⟨k + 1, _, HLT.out, by simp, hid (by rw [HT.out, htk, if_pos rfl, ← List.append_assoc]; exact HK3.out)⟩
              case measure => have := HLT.out; simp [intOf]; omega
            · have htk : tfk = false := by rw [HTF.out]; simp [h2]
              have g2 : (cto == -1) = false := beq_eq_false_iff_ne.2 h2
              gi_wp2_with fail
              go_roundw
              case rel => exact ⟨k + 1, _, HLT.out, by simp, hid (by rw [HT.out, htk, if_neg (by decide), List.append_nil]; exact HK2.out)⟩
              case measure => have := HLT.out; simp [intOf]; omega
          · have htk : tfk = false := by rw [HTF.out]; simp [h1]
            have g1 : decide ((0 : Int) < cwv) = false := decide_eq_false h1
            gi_wp2_with fail
            go_roundw
            case rel => exact ⟨k + 1, _, HLT.out, by simp, hid (by rw [HT.out, htk, if_neg (by decide), List.append_nil]; exact HK2.out)⟩
            case measure => have := HLT.out; simp [intOf]; omega
        · obtain rfl : k = L.length := by omega
          have HK1 : Hid (KW w w.heap.size (.slice none 0 0) [] (roots L vars) [] v wr) := hid HK.out
          have j1 : decide ((L.length : Int) < (L.length : Int)) = false := by rw [decide_eq_false_iff_not]; omega
          have j4 : decide (L.length < L.length) = false := by rw [decide_eq_false_iff_not]; omega
          gi_wp2_with fail
          clear j1 j4 HK
          refine wpIn_loop (fun (a' : Act) (w' : World) => ∃ (u0 u1 u2 u3 u4 u5 u6 u7 u8 u9 u10 u11 u12 u13 u14 u15 u16 u17 u18 u19 u20 u21 u22 u23 u24 u25 u26 u27 u28 u29 u30 u31 u32 u33 u34 u35 u36 u37 u38 u39 u40 u41 u42 u43 u44 u45 u46 u47 u48 u49 u50 u51 u52 u53 u54 u55 u56 u57 u58 u59 u60 u61 u62 u63 u64 u65 u66 u67 u68 u69 u70 u71 u72 u73 u74 u75 u76 u77 u78 u79 u80 u81 u82 u83 u84 u85 u86 u87 : Value) (ds : List Deferred), (u0 = .slice x L.length cap ∧ u5 = .pointer (some ⟨w.heap.size, 0, none⟩) ∧ ∃ (Ds todo out : List Nat) (v : Value), ds = Ds.map markD ∧ Hid (KW w w.heap.size u12 Ds todo out v w') ∧ Hid (KeepI L (· ∈ roots L vars) todo out ∧ todo.length ≤ (roots L vars).length + out.length * askN L)) ∧ a' = { tmps := #[u0, u1, u2, u3, u4, u5, u6, u7, u8, u9, u10, u11, u12, u13, u14, u15, u16, u17, u18, u19, u20, u21, u22, u23, u24, u25, u26, u27, u28, u29, u30, u31, u32, u33, u34, u35, u36, u37, u38, u39, u40, u41, u42, u43, u44, u45, u46, u47, u48, u49, u50, u51, u52, u53, u54, u55, u56, u57, u58, u59, u60, u61, u62, u63, u64, u65, u66, u67, u68, u69, u70, u71, u72, u73, u74, u75, u76, u77, u78, u79, u80, u81, u82, u83, u84, u85, u86, u87], defers := ds }) (fun (a' : Act) (w' : World) => (L.length - lenV (a'.tmps.getD 12 undef)) * (askN L + 1) + lenC (w'.cell? ⟨w.heap.size, 0, none⟩)) ?_ ?_
          · (repeat apply Exists.intro)
            exact ⟨⟨rfl, rfl, [], roots L vars, [], v, rfl, HK1, hid ⟨KeepI.start L vars, by simp⟩⟩, rfl⟩
          intro a' wr2 hinv
          clear HK1
          obtain ⟨u0, hinv⟩ := hinv
          obtain ⟨u1, hinv⟩ := hinv
          obtain ⟨u2, hinv⟩ := hinv
          obtain ⟨u3, hinv⟩ := hinv
          obtain ⟨u4, hinv⟩ := hinv
          obtain ⟨u5, hinv⟩ := hinv
          obtain ⟨u6, hinv⟩ := hinv
          obtain ⟨u7, hinv⟩ := hinv
          obtain ⟨u8, hinv⟩ := hinv
          obtain ⟨u9, hinv⟩ := hinv
          obtain ⟨u10, hinv⟩ := hinv
          obtain ⟨u11, hinv⟩ := hinv
          obtain ⟨u12, hinv⟩ := hinv
          obtain ⟨u13, hinv⟩ := hinv
          obtain ⟨u14, hinv⟩ := hinv
          obtain ⟨u15, hinv⟩ := hinv
          obtain ⟨u16, hinv⟩ := hinv
          obtain ⟨u17, hinv⟩ := hinv
          obtain ⟨u18, hinv⟩ := hinv
          obtain ⟨u19, hinv⟩ := hinv
          obtain ⟨u20, hinv⟩ := hinv
          obtain ⟨u21, hinv⟩ := hinv
          obtain ⟨u22, hinv⟩ := hinv
          obtain ⟨u23, hinv⟩ := hinv
          obtain ⟨u24, hinv⟩ := hinv
          obtain ⟨u25, hinv⟩ := hinv
          obtain ⟨u26, hinv⟩ := hinv
          obtain ⟨u27, hinv⟩ := hinv
          obtain ⟨u28, hinv⟩ := hinv
          obtain ⟨u29, hinv⟩ := hinv
          obtain ⟨u30, hinv⟩ := hinv
          obtain ⟨u31, hinv⟩ := hinv
          obtain ⟨u32, hinv⟩ := hinv
          obtain ⟨u33, hinv⟩ := hinv
          obtain ⟨u34, hinv⟩ := hinv
          obtain ⟨u35, hinv⟩ := hinv
          obtain ⟨u36, hinv⟩ := hinv
          obtain ⟨u37, hinv⟩ := hinv
          obtain ⟨u38, hinv⟩ := hinv
          obtain ⟨u39, hinv⟩ := hinv
          obtain ⟨u40, hinv⟩ := hinv
          obtain ⟨u41, hinv⟩ := hinv
          obtain ⟨u42, hinv⟩ := hinv
          obtain ⟨u43, hinv⟩ := hinv
          obtain ⟨u44, hinv⟩ := hinv
          obtain ⟨u45, hinv⟩ := hinv
          obtain ⟨u46, hinv⟩ := hinv
          obtain ⟨u47, hinv⟩ := hinv
          obtain ⟨u48, hinv⟩ := hinv
          obtain ⟨u49, hinv⟩ := hinv
          obtain ⟨u50, hinv⟩ := hinv
          obtain ⟨u51, hinv⟩ := hinv
          obtain ⟨u52, hinv⟩ := hinv
          obtain ⟨u53, hinv⟩ := hinv
          obtain ⟨u54, hinv⟩ := hinv
          obtain ⟨u55, hinv⟩ := hinv
          obtain ⟨u56, hinv⟩ := hinv
          obtain ⟨u57, hinv⟩ := hinv
          obtain ⟨u58, hinv⟩ := hinv
          obtain ⟨u59, hinv⟩ := hinv
          obtain ⟨u60, hinv⟩ := hinv
          obtain ⟨u61, hinv⟩ := hinv
          obtain ⟨u62, hinv⟩ := hinv
          obtain ⟨u63, hinv⟩ := hinv
          obtain ⟨u64, hinv⟩ := hinv
          obtain ⟨u65, hinv⟩ := hinv
          obtain ⟨u66, hinv⟩ := hinv
          obtain ⟨u67, hinv⟩ := hinv
          obtain ⟨u68, hinv⟩ := hinv
          obtain ⟨u69, hinv⟩ := hinv
          obtain ⟨u70, hinv⟩ := hinv
          obtain ⟨u71, hinv⟩ := hinv
          obtain ⟨u72, hinv⟩ := hinv
          obtain ⟨u73, hinv⟩ := hinv
          obtain ⟨u74, hinv⟩ := hinv
          obtain ⟨u75, hinv⟩ := hinv
          obtain ⟨u76, hinv⟩ := hinv
          obtain ⟨u77, hinv⟩ := hinv
          obtain ⟨u78, hinv⟩ := hinv
          obtain ⟨u79, hinv⟩ := hinv
          obtain ⟨u80, hinv⟩ := hinv
          obtain ⟨u81, hinv⟩ := hinv
          obtain ⟨u82, hinv⟩ := hinv
          obtain ⟨u83, hinv⟩ := hinv
          obtain ⟨u84, hinv⟩ := hinv
          obtain ⟨u85, hinv⟩ := hinv
          obtain ⟨u86, hinv⟩ := hinv
          obtain ⟨u87, hinv⟩ := hinv
          obtain ⟨ds, hinv⟩ := hinv
          obtain ⟨⟨rfl, rfl, Ds, todo, out, v, rfl, HK, HI⟩, rfl⟩ := hinv
          have c0 := HK.out.box.cell 0 (v := v) rfl
          rcases todo with _ | ⟨i, todo⟩
          · have hv : ∃ a c, v = .slice a 0 c := by obtain ⟨a, c, h⟩ := HK.out.todo.shape; exact ⟨a, c, h⟩
            obtain ⟨sa, sc, rfl⟩ := hv
            gi_wp2_with fail
            refine leaves_marks Ds wr2 HK.out.marks ?_
            refine ⟨u12, by simp [results, Try.results7, go_sem], ?_⟩
            obtain ⟨q1, q2⟩ := HK.out.ended
            rw [keepI_kept HI.out.1] at q1
            exact ⟨u12, rfl, q1, q2⟩
          · obtain ⟨g, off, qc, rfl, hqc1, hqc2, hqm, hhead, hrest⟩ := HK.out.todo.head
            have hil : i < L.length := reach_lt (fun _ => roots_lt) (HI.out.1.todoR i (List.mem_cons_self ..))
            have hol : out.length ≤ L.length := out_len (fun _ => roots_lt) HI.out.1
            have hhl := lt_of_cell hhead
            have f0 := HK.out.box.free 0
            have hlb := HK.out.box.lt
            have HS : Hid (∃ z n c, (if qc = 1 then some (⟨g, off, none⟩ : Addr) else some ⟨g, off + 1, none⟩) = z) := hid ⟨_, 0, 0, rfl⟩
            obtain ⟨z, hz⟩ : ∃ z, z = (if qc = 1 then some (⟨g, off, none⟩ : Addr) else some ⟨g, off + 1, none⟩) := ⟨_, rfl⟩
            rw [← hz] at hrest
            have hsepr : ∀ g', u12.ownBlock = some g' → (Value.slice z (natI todo).length (qc - 1)).ownBlock ≠ some g' := by
              intro g' hg' e
              refine HK.out.sep g' hg' ?_
              rw [hz] at e
              split at e <;> exact e
            have HR := hid (HK.out.stored (todo' := todo) hrest hsepr (Nat.le_refl _))
            have nl : (natI todo).length = todo.length := natI_len _
            have nl2 : (List.map (fun i : Nat => (i : Int)) todo).length = todo.length := List.length_map ..
            simp only [nl, nl2] at c0 HR hqc2
            have p1 : decide ((0 : Int) < ((todo.length + 1 : Nat) : Int)) = true := by rw [decide_eq_true_iff]; omega
            have p2 : (1 : Int) ≤ ((todo.length + 1 : Nat) : Int) := by omega
            have p3 : (todo.length + 1) ≤ qc := hqc2
            have p4 : (1 : Int) ≤ (qc : Int) := by omega
            clear hrest hsepr HS nl nl2
            have HIL := hid hil
            obtain ⟨b, o, rfl, hcell⟩ := HX.out (by intro h; rw [h] at hil; simp at hil)
            obtain ⟨r9, u9', hc⟩ := hcell i hil
            have nl3 : todo.length + 1 ≤ qc := p3
            have HM0 := hid HK.out.meas
            clear HK hhl
            by_cases hq1 : qc = 1
            case' pos =>
              have hz1 : z = some ⟨g, off, none⟩ := by rw [hz, if_pos hq1]
              subst hz1
              subst hq1
              have hl0 : todo.length = 0 := by omega
              have HR5' : Hid (KW w w.heap.size u12 Ds todo out (.slice (some ⟨g, off, none⟩) 0 0) (wr2.setCell ⟨w.heap.size, 0, none⟩ (.slice (some ⟨g, off, none⟩) 0 0))) := hid (by have := HR.out; rw [hl0] at this; exact this)
              clear hz nl3 hl0 HR
              gi_wp2_with fail
              generalize wr2.setCell ⟨w.heap.size, 0, none⟩ (.slice (some ⟨g, off, none⟩) 0 0) = W5 at HR5' ⊢
              generalize (Value.slice (some ⟨g, off, none⟩) 0 0) = V5 at HR5'
              have HR5 := HR5'
            case' neg =>
              have hz1 : z = some ⟨g, off + 1, none⟩ := by rw [hz, if_neg hq1]
              subst hz1
              have p5 : ¬ qc - 1 = 0 := by omega
              have p6 : ¬ ((qc : Int) = 1) := by omega
              clear hz nl3
              gi_wp2_with fail
              generalize wr2.setCell ⟨w.heap.size, 0, none⟩ (.slice (some ⟨g, off + 1, none⟩) todo.length (qc - 1)) = W5 at HR ⊢
              generalize (Value.slice (some ⟨g, off + 1, none⟩) todo.length (qc - 1)) = V5 at HR
              have HR5 := HR
            all_goals (
              clear hhead c0 f0 p1 p2 p3 p4
              have HBS := bsearch_any out HI.out.1.sorted i W5 u12 (rdNats_of_own HR5.out.out) (by have := HN.out; omega)
              have HM5 := hid HR5.out.meas
              by_cases hm : i ∈ out
              case' pos =>
                rw [decide_eq_true hm] at HBS
                refine ⟨trivial, ?_⟩
                refine (callsIn_wide.2 HBS).mono ?_
                rintro e' w6 ⟨rfl, rfl⟩
                have HM := hid hm
                clear HBS hm
                gi_wp2_with fail
                have hlen : todo.length ≤ (roots L vars).length + out.length * askN L := by have := HI.out.2; rw [List.length_cons] at this; omega
                refine ⟨⟨_, _, _, _, _, _, _, _, _, _, _, _, _, _, _, _, _, _, _, _, _, _, _, _, _, _, _, _, _, _, _, _, _, _, _, _, _, _, _, _, _, _, _, _, _, _, _, _, _, _, _, _, _, _, _, _, _, _, _, _, _, _, _, _, _, _, _, _, _, _, _, _, _, _, _, _, _, _, _, _, _, _, _, _, _, _, _, _, _, ⟨rfl, rfl, Ds, todo, out, V5, rfl, HR5, hid ⟨HI.out.1.skip HM.out, hlen⟩⟩, rfl⟩, ?_⟩
                focus
                  have e1 := HM0.out
                  have e2 := HM5.out
                  show (L.length - lenV u12) * (askN L + 1) + lenC (w6.cell? ⟨w.heap.size, 0, none⟩) < (L.length - lenV u12) * (askN L + 1) + lenC (wr2.cell? ⟨w.heap.size, 0, none⟩)
                  rw [e1.2, e2.2, List.length_cons]; omega
              case' neg =>
                rw [decide_eq_false hm] at HBS
                refine ⟨trivial, ?_⟩
                refine (callsIn_wide.2 HBS).mono ?_
                rintro e' w6 ⟨rfl, rfl⟩
                have HM := hid hm
                clear HBS hm
                gi_wp2_with fail
                refine ⟨trivial, ?_⟩
                refine (callsIn_wide.2 (In.ins_any w.heap.size u12 out.length (placeN out i) w6.heap.size 1 (natV out) (.int .i64 (i : Int)) (w6.alloc (.cells #[.int .i64 (i : Int)] 3)) (HR5.out.out.alloc _) (natV_one _) rfl (placeN_le _ _) (Blk.new _ _ _) (fun e => by have := (HR5.out.out.lt _ e).2; omega) (by have := HN.out; omega) (by rw [World.size_alloc]; have := HR5.out.low.size; omega))).mono ?_
                rintro e' w7 ⟨vo', rfl, ho7, hg7, hw7⟩
                rw [natV_ins, ← insN_len out i] at ho7
                have HR7 := hid ((HR5.out.still (ext_alloc (ext_refl _) (.cells #[.int .i64 (i : Int)] 3))).inserted ho7 hg7 hw7)
                have hc7 := hc.below HR7.out.low
                obtain ⟨a7, k7, hr7⟩ := hc7.reads.shape
                obtain ⟨a8, k8, hr8⟩ := hc7.writes.shape
                subst hr7 hr8
                have d0 := hc7.c0
                have d1 := hc7.c1
                have d2 := hc7.c2
                have d3 := hc7.c3
                have d4 := hc7.c4
                have d5 := hc7.c5
                have d6 := hc7.c6
                have d7 := hc7.c7
                have d8 := hc7.c8
                have hbl := lt_of_cell d0
                have q1 : decide ((i : Int) < (L.length : Int)) = true := by rw [decide_eq_true_iff]; omega
                have q2 : (0 : Int) ≤ (i : Int) := by omega
                have q3 : decide (i < L.length) = true := by rw [decide_eq_true_iff]; omega
                have HAK := hid (asked_any (.slice (some ⟨b, o, none⟩) L.length cap) (some ⟨b, o, none⟩) L.length cap L[i] a7 L[i].reads.length k7 a8 L[i].writes.length k8 w7 rfl)
                unfold attC at HAK
                clear ho7 hg7 hw7
                gi_wp2_with fail
                refine ⟨trivial, ?_⟩
                refine (callsIn_wide.2 HAK.out).mono ?_
                rintro e' w8 ⟨rfl, hw8⟩
                have hB8 : Below w7.heap.size w7 w8 := by rw [hw8]; exact ext_alloc (ext_alloc (ext_refl _) _) _
                have hs8 : w8.heap.size = w7.heap.size + 2 := by rw [hw8, World.size_alloc, World.size_alloc]
                have hx2 : Blk w8 w7.heap.size #[.slice (some ⟨b, o, none⟩) L.length cap] 22 := by rw [hw8]; exact (Blk.new _ _ _).alloc _
                have hx1 : Blk w8 (w7.heap.size + 1) (attC L[i] (.slice a7 L[i].reads.length k7) (.slice a8 L[i].writes.length k8)) 29 := by rw [hw8]; exact Blk.new' _ _ _ (by rw [World.size_alloc])
                have HR8 := hid (HR7.out.still hB8)
                have HRUN := hid (asked_runs 3 (by omega) (w7.heap.size + 1) w7.heap.size L _ L[i] _ _ w w8 HL.out hc.reads hc.writes HR8.out.low hx1 hx2)
                have hDlt : ∀ D ∈ Ds, D < w8.heap.size := HR8.out.marks.lt
                have hle8 := HR8.out.low.size
                have HGD : Hid (L.getD i Att.zero = L[i]) := hid (by rw [List.getD_eq_getElem?_getD, List.getElem?_eq_getElem hil]; rfl)
                have HTK := hid (HI.out.1.take HM.out)
                have HAN := hid (askN_ge hil)
                rw [HGD.out] at HTK HAN
                have hlo : (insN out i).length ≤ L.length := out_len (fun _ => roots_lt) HTK.out
                have htl : todo.length + (asked L L[i]).length ≤ (roots L vars).length + (insN out i).length * askN L := by
                  have h1 := HI.out.2
                  have h2 := HAN.out
                  rw [List.length_cons] at h1
                  rw [insN_len, Nat.succ_mul]
                  omega
                have hbd : (roots L vars).length + (insN out i).length * askN L ≤ 1000000000000 := by
                  have := Nat.mul_le_mul_right (askN L) hlo
                  have := HBIG.out
                  omega
                have HBD := hid (And.intro hlo (And.intro htl hbd))
                have HX := hid (And.intro hx1 hx2)
                have HW8 := hid hw8
                clear hw8 d0 d1 d2 d3 d4 d5 d6 d7 d8 hx1 hx2 htl hbd hlo hB8
                gi_wp2_with fail
                apply wpIn_range_runs (encs := fun k => #[.int .i64 (askK L L[i] k : Nat)]) (Kp := KeepA w.heap.size (w7.heap.size + 1) w7.heap.size (attC L[i] (.slice a7 L[i].reads.length k7) (.slice a8 L[i].writes.length k8)) #[.slice (some ⟨b, o, none⟩) L.length cap]) (N := (asked L L[i]).length) (w0 := w8) rfl (by omega) (gf := 24) (lb := #[.pointer (some ⟨w7.heap.size + 1, 0, none⟩), .pointer (some ⟨w7.heap.size, 0, none⟩)]) rfl trivial (enters_of Try.func24 (by kernel_rfl) rfl) HRUN.out keepA_t (keepA_b hle8 (by omega) (by omega)) (Below.refl _ _) (fun _ => rfl)
                  (fun k W => ∃ v, KW w w.heap.size vo' Ds (todo ++ (asked L L[i]).take k) (insN out i) v W ∧ Blk W (w7.heap.size + 1) (attC L[i] (.slice a7 L[i].reads.length k7) (.slice a8 L[i].writes.length k8)) 29 ∧ Blk W w7.heap.size #[.slice (some ⟨b, o, none⟩) L.length cap] 22)
                  (fun k A B row h hg hr => by
                    obtain ⟨v, h, h1, h2⟩ := h
                    exact ⟨v, h.noCells hg hle8 hDlt hr, h1.noCells hg (fun r e => (hr r e).2), h2.noCells hg (fun r e => (hr r e).2)⟩)
                  ⟨V5, by simpa using HR8.out, HX.out.1, HX.out.2⟩
                case hassign =>
                  intro lp k W K hK
                  gi_wp2
                  exact hK
                case hbody =>
                  rintro lp k W ⟨v, hKW, hb1, hb2⟩ hk
                  have HKW := hid hKW
                  have c0 := hKW.box.cell 0 (v := v) rfl
                  have hbw := hKW.box.lt
                  have HTK : Hid ((asked L L[i]).take (k + 1) = (asked L L[i]).take k ++ [askK L L[i] k]) := hid (by
                    unfold askK
                    rw [List.take_succ_eq_append_getElem hk]
                    congr 2
                    rw [List.getD_eq_getElem?_getD, List.getElem?_eq_getElem hk]; rfl)
                  have HB12 := hid (And.intro hb1 hb2)
                  generalize askK L L[i] k = ak at HTK ⊢
                  have HKK := hid hk
                  clear hKW hb1 hb2 hk
                  gi_wp2_with (gi_at_builtin; refine wpListIn_append_q _ rfl _ _ 23 rfl w.heap.size 3 i0 Try.underlying23 hi0 hz0 hz1 hz2 v _ rfl (HKW.out.todo.alloc _) ⟨W.heap.size, 0, none⟩ 1 (ak : Int) rfl (cell_new_one _ _ _) (by rw [natI_len, List.length_append, List.length_take]; have := HBD.out; have := HKK.out; omega) (by rw [World.size_alloc]; have := HKW.out.low.size; omega) ?_; intro v' w3 hq3 hg3 ho3; obtain ⟨HK3, HX3⟩ := (HKW.out.still (ext_alloc (ext_refl _) _)).pushed hq3 hg3 ho3 hn0; obtain ⟨sa, sn, sc, rfl⟩ := qrow_shape hq3; have HPK := hid (HKW.out.pushed_keeps hg3 hn0 (.slice sa sn sc)); have c3 := HX3.cell 0 (v := v) rfl; have f3 := HX3.free 0; have HK3 := hid HK3; clear hq3 hg3 ho3 HX3)
                  obtain ⟨g1, g2, g3⟩ := HPK.out
                  have z1 := g3 (w7.heap.size + 1) (attC L[i] (.slice a7 L[i].reads.length k7) (.slice a8 L[i].writes.length k8)) 29 (by decide) (by decide)
                  have z2 := g3 w7.heap.size #[.slice (some ⟨b, o, none⟩) L.length cap] 22 (by decide) (by decide)
                  exact ⟨g1.from _, ⟨⟨g2, g1.walks⟩, z1, z2⟩, ⟨_, by rw [HTK.out, ← List.append_assoc]; exact HK3.out, z1 HB12.out.1, z2 HB12.out.2⟩⟩
                case hdone =>
                  rintro D W hD ⟨v, hKW, hb1, hb2⟩ hK
                  rw [List.take_length] at hKW
                  have HKW := hid (hKW.marked hle8 hD hDlt hK)
                  have HM9 := hid HKW.out.meas
                  clear hKW hb1 hb2 hK
                  gi_wp2_with fail
                  refine ⟨⟨_, _, _, _, _, _, _, _, _, _, _, _, _, _, _, _, _, _, _, _, _, _, _, _, _, _, _, _, _, _, _, _, _, _, _, _, _, _, _, _, _, _, _, _, _, _, _, _, _, _, _, _, _, _, _, _, _, _, _, _, _, _, _, _, _, _, _, _, _, _, _, _, _, _, _, _, _, _, _, _, _, _, _, _, _, _, _, _, _, ⟨rfl, rfl, D :: Ds, todo ++ asked L L[i], insN out i, v, rfl, HKW, hid ⟨HTK.out, by rw [List.length_append]; exact HBD.out.2.1⟩⟩, rfl⟩, ?_⟩
                  have e1 := HM0.out
                  have e2 := HM9.out
                  show (L.length - lenV vo') * (askN L + 1) + lenC (W.cell? ⟨w.heap.size, 0, none⟩) < (L.length - lenV u12) * (askN L + 1) + lenC (wr2.cell? ⟨w.heap.size, 0, none⟩)
                  rw [e1.1, e1.2, e2.1, e2.2, List.length_cons, List.length_append]
                  exact take_meas (insN_len out i) HBD.out.1 HAN.out)
end Go.Proofs.Ytcdgfnocjnampaa
