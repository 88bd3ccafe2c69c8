/-
 Joined texts: TeV TeD TeG.
-/
import Derived.RangeFuncNested
import Derived.RangeFuncBound
import Derived.RangeFuncCalls
import Derived.RangeFuncLeaves
import Derived.Shelf.Abstract
import Derived.Shelf.RegionOpen
import Derived.WalkKit
import Derived.OwnWalkIn
import Derived.TacticsInMore
import Derived.LoopNIn
import Derived.LoopIn
import Derived.Test.YtnblhodhkifeeaaGreatDoorTrGK
import Derived.Test.YtnblhodhkifeeaaGreatDoorTrGD
import Derived.Test.YtnblhodhkifeeaaGreatDoorTbGL
import Derived.Test.YtnblhodhkifeeaaGreatDoorTrGV
import Derived.Test.YtnblhodhkifeeaaGreatDoorTrGT
import Derived.Test.YtnblhodhkifeeaaGreatDoorTrGF
import Derived.Test.YtnblhodhkifeeaaGreatDoorTrGP
import Derived.RangeFuncBox
import Derived.Maps.AppendAt
/-
 Walk: the iterator of a trace's events, as they are read (trace.events$1).
-/
namespace Go.Proofs.YtnblhodhkifeeaaGreatDoor
set_option linter.unusedVariables false
set_option linter.unusedSimpArgs false
open Go Go.RowKit Go.Shelf
attribute [local go_sem] Oper.semAt_some
def evZ : Ev := ⟨0, 0, 0, 0, 0, 0, 0⟩
structure EvM (T V S : Int) (w₀ : World) (s : ByteArray) (X rb C c tb sb : Nat) (k : Nat) (ck : Cdr) (sk : Sh) (ak : Nat) (wr : World) : Prop where
 be : Below w₀.heap.size w₀ wr
 rd : RdrAt wr rb s ak 0
 co : Blk wr C (cdrA T V S ck) 106
 ch : CkAt wr c tb sb sk k
 bX : Blk wr X #[.pointer (some ⟨rb, 0, none⟩)] 63
structure EvP (T V S : Int) (s : ByteArray) (many : Nat) (l : List Ev) (rf : Rdr) (k : Nat) (ck : Cdr) (sk : Sh) (ak : Nat) : Prop where
 ok : OkC T ck
 wf : Wf sk
 cm : CmB sk k
 sz : (sk.ths.length : Int) = T ∧ sk.vars = V ∧ sk.n = S
 ev : evR T V S (many - k) ck sk ⟨byt s, ak, 0⟩ = (l.drop k, rf)
 le : ak ≤ s.size
def Apart (w₀ : World) (B Mb X rb C c tb sb : Nat) : Prop := w₀.heap.size ≤ rb ∧ (rb ≠ B ∧ rb ≠ Mb ∧ rb ≠ X) ∧ rb < C ∧ B < C ∧ Mb < C ∧ X < C ∧ C < c ∧ C < tb ∧ C < sb
section
variable {T V S : Int} {w₀ wr w' : World} {s : ByteArray} {B Mb X rb C c tb sb : Nat} {k : Nat} {ck : Cdr} {sk : Sh} {ak : Nat}
theorem EvM.below (h : EvM T V S w₀ s X rb C c tb sb k ck sk ak wr) (hb : Below wr.heap.size wr w') : EvM T V S w₀ s X rb C c tb sb k ck sk ak w' :=
 ⟨ext_trans h.be hb, Blk.below hb h.rd, h.co.below hb, CkR.below h.ch hb, h.bX.below hb⟩
theorem EvM.keep (h : EvM T V S w₀ s X rb C c tb sb k ck sk ak wr) (hb : KeepBC w₀.heap.size [rb, B, Mb, X] [C, c, tb, sb] wr w') : EvM T V S w₀ s X rb C c tb sb k ck sk ak w' :=
 ⟨h.be.trans hb.1, KeepC.blk hb.2 (by simp) h.rd, KeepC.blk hb.2 (by simp) h.co, ⟨KeepC.blk hb.2 (by simp) h.ch.ck, KeepC.blk hb.2 (by simp) h.ch.th, KeepC.blk hb.2 (by simp) h.ch.st, h.ch.ne, h.ch.lt, h.ch.ls, h.ch.nt, h.ch.ns⟩, KeepC.blk hb.2 (by simp) h.bX⟩
theorem EvM.read (h : EvM T V S w₀ s X rb C c tb sb k ck sk ak wr) (hA : Apart w₀ B Mb X rb C c tb sb) {ck' : Cdr} {ak' : Nat} (hc : Blk w' C (cdrA T V S ck') 106) (hr : RdrAt w' rb s ak' 0) (hT : Turn [C, rb] wr w') : EvM T V S w₀ s X rb C c tb sb k ck' sk ak' w' := by
 obtain ⟨a0, ⟨a1, a2, a3⟩, a4, a5, a6, a7, a8, a9, a10⟩ := hA
 refine ⟨h.be.trans (hT.below (fun x hx => ?_) h.be.size), hr, hc, CkR.turn h.ch hT (by simp only [List.mem_cons, List.not_mem_nil, or_false]; omega) (by simp only [List.mem_cons, List.not_mem_nil, or_false]; omega) (by simp only [List.mem_cons, List.not_mem_nil, or_false]; omega), hT.blk (by simp only [List.mem_cons, List.not_mem_nil, or_false]; omega) h.bX⟩
 simp only [List.mem_cons, List.not_mem_nil, or_false] at hx
 omega
theorem EvM.next (h : EvM T V S w₀ s X rb C c tb sb k ck sk ak wr) (hA : Apart w₀ B Mb X rb C c tb sb) {sk' : Sh} {k' : Nat} (hc : CkAt w' c tb sb sk' k') (hT : Turn [c, tb, sb] wr w') : EvM T V S w₀ s X rb C c tb sb k' ck sk' ak w' := by
 obtain ⟨a0, ⟨a1, a2, a3⟩, a4, a5, a6, a7, a8, a9, a10⟩ := hA
 refine ⟨h.be.trans (hT.below (fun x hx => ?_) h.be.size), Turn.blk hT (by simp only [List.mem_cons, List.not_mem_nil, or_false]; omega) h.rd, hT.blk (by simp only [List.mem_cons, List.not_mem_nil, or_false]; omega) h.co, hc, hT.blk (by simp only [List.mem_cons, List.not_mem_nil, or_false]; omega) h.bX⟩
 simp only [List.mem_cons, List.not_mem_nil, or_false] at hx
 omega
end
theorem evR_err {T V S : Int} {n : Nat} {ck : Cdr} {sk : Sh} {r r' : Rdr} {e : Ev} {x : Nat} {c' : Cdr} (h : readC T V S ck r = (e, x, r', c')) (hx : x ≠ 0) : evR T V S (n + 1) ck sk r = ([], r') := by
 rw [evR]; dsimp only; rw [h]; dsimp only; rw [if_pos hx]
theorem evR_none {T V S : Int} {n : Nat} {ck : Cdr} {sk : Sh} {r r' : Rdr} {e : Ev} {c' : Cdr} (h : readC T V S ck r = (e, 0, r', c')) (hs : stepS sk e = none) : evR T V S (n + 1) ck sk r = ([], failW r' r.at_ 4) := by
 rw [evR]; dsimp only; rw [h]; dsimp only; rw [if_neg (by simp), hs]
theorem evR_some {T V S : Int} {n : Nat} {ck : Cdr} {sk s' : Sh} {r r' : Rdr} {e : Ev} {c' : Cdr} (h : readC T V S ck r = (e, 0, r', c')) (hs : stepS sk e = some s') : evR T V S (n + 1) ck sk r = (e :: (evR T V S n c' s' r').1, (evR T V S n c' s' r').2) := by
 rw [evR]; dsimp only; rw [h]; dsimp only; rw [if_neg (by simp), hs]
theorem drop_cons {l r : List Ev} {k : Nat} {e : Ev} (h : l.drop k = e :: r) : k < l.length ∧ l.getD k evZ = e ∧ l.drop (k + 1) = r := by
 have hk : k < l.length := by
  rcases Nat.lt_or_ge k l.length with h' | h'
  ·exact h'
  ·rw [List.drop_eq_nil_of_le h'] at h; cases h
 rw [List.drop_eq_getElem_cons hk] at h
 obtain ⟨h1, h2⟩ := List.cons.inj h
 refine ⟨hk, ?_, h2⟩
 rw [List.getD_eq_getElem?_getD, List.getElem?_eq_getElem hk]
 exact h1
theorem sub1 (rb C c tb sb : Nat) : ∀ x ∈ [C, rb], x ∈ [rb] ++ [C, c, tb, sb] := by
 intro z hz
 simp only [List.mem_cons, List.not_mem_nil, or_false, List.mem_append] at hz ⊢
 omega
theorem sub2 (rb C c tb sb : Nat) : ∀ x ∈ [c, tb, sb], x ∈ [rb] ++ [C, c, tb, sb] := by
 intro z hz
 simp only [List.mem_cons, List.not_mem_nil, or_false, List.mem_append] at hz ⊢
 omega
theorem sub3 (rb C c tb sb : Nat) : ∀ x ∈ [rb], x ∈ [rb] ++ [C, c, tb, sb] := by
 intro z hz
 simp only [List.mem_cons, List.not_mem_nil, or_false, List.mem_append] at hz ⊢
 omega
theorem next_none {w : World} {c tb sb ev : Nat} {s : Sh} {e : Ending} {w' : World} (h : NextP w c tb sb s ev none e w') : e = .returned (.int .i64 4) ∧ CkAt w' c tb sb s ev ∧ Turn [c, tb, sb] w w' := by
 rcases h with ⟨s', hs, -⟩ | ⟨-, h⟩
 ·cases hs
 ·exact h
theorem next_some {w : World} {c tb sb ev : Nat} {s s' : Sh} {e : Ending} {w' : World} (h : NextP w c tb sb s ev (some s') e w') : e = .returned (.int .i64 0) ∧ CkAt w' c tb sb s' (ev + 1) ∧ Turn [c, tb, sb] w w' := by
 rcases h with ⟨s'', hs, h⟩ | ⟨hs, -⟩
 ·cases hs; exact h
 ·cases hs
def EvRuns (n : Nat) (T V S : Int) (s : ByteArray) (B Mb X rb many at_ : Nat) (w₀ w : World) : Prop :=
 SeqRunsK Fence.wide n Tryz.prog 69 #[.pointer (some ⟨B, 0, none⟩), .pointer (some ⟨Mb, 0, none⟩), .pointer (some ⟨X, 0, none⟩)] [rb]
  (fun k => #[evA ((evR T V S many newC (newS T V S) ⟨byt s, at_, 0⟩).1.getD k evZ)]) (evR T V S many newC (newS T V S) ⟨byt s, at_, 0⟩).1.length (KeepBC w₀.heap.size [rb, B, Mb, X])
  (fun W => RdrAt W rb s (evR T V S many newC (newS T V S) ⟨byt s, at_, 0⟩).2.at_ (evR T V S many newC (newS T V S) ⟨byt s, at_, 0⟩).2.err) w
set_option maxRecDepth 100000 in
set_option maxHeartbeats 4000000 in
theorem events_zero (n : Nat) (hn : 1 ≤ n) (T V S : Int) (s : ByteArray) (B Mb X rb at_ : Nat) (w₀ w : World) (hs : 0 ≤ T ∧ T ≤ 6 ∧ 1 ≤ V ∧ V ≤ 32 ∧ 1 ≤ S ∧ S ≤ V) (hK : KindsAt w) (v : Value)
  (hB : Blk w B #[.int .i64 T, .int .i64 V, .int .i64 S, v] 25) (hM : Blk w Mb #[.int .i64 0] 3) (hr : RdrAt w rb s at_ 0) : EvRuns n T V S s B Mb X rb 0 at_ w₀ w := by
 unfold EvRuns
 rw [evR]
 intro lp J W hW hturn hY h0
 have HK := hid (hK.below hW)
 have HB := hid (hB.below hW)
 have HM := hid (hM.below hW)
 have HR := hid (show RdrAt W rb s at_ 0 from Blk.below hW hr)
 have HT := hid (fun W' (h : Below W.heap.size W W') => hturn [] 0 W W' (h0 [] (fun x hx => by cases hx)) (Turn.of_below h))
 have HSZ := hid hs
 have x0 := HB.out.cell 0 (v := .int .i64 T) rfl
 have x1 := HB.out.cell 1 (v := .int .i64 V) rfl
 have x2 := HB.out.cell 2 (v := .int .i64 S) rfl
 obtain ⟨Tn, rfl⟩ := Int.eq_ofNat_of_zero_le hs.1
 obtain ⟨Vn, rfl⟩ := Int.eq_ofNat_of_zero_le (show 0 ≤ V by omega)
 obtain ⟨Sn, rfl⟩ := Int.eq_ofNat_of_zero_le (show 0 ≤ S by omega)
 have HNEW : Hid (Calls Tryz.prog 25 #[.int .i64 (Tn : Int), .int .i64 (Vn : Int), .int .i64 (Sn : Int)] W fun e' W' => (∃ p q, e' = .returned (.tuple #[.pointer p, .int .i64 q])) ∧ Below W.heap.size W W') := hid (by
  by_cases hT : 1 ≤ Tn
  ·refine (new_any (Tn : Int) Vn Sn W HK.out (by unfold sizesB; exact decide_eq_true (by omega))).mono fun e' W' hh => ?_
   obtain ⟨C, h1, -, -, h4⟩ := hh
   exact ⟨⟨_, _, h1⟩, h4⟩
  ·refine (new_bad' (Tn : Int) Vn Sn W HK.out (by unfold sizesB; exact decide_eq_false (by omega))).mono fun e' W' hh => ?_
   exact ⟨⟨_, _, hh.1⟩, hh.2⟩)
 have HCN := hid (fun W' => new_ok Tn Vn Sn W' (by omega) (by omega) (by omega) (by omega) (by omega))
 clear hturn hY h0 hK hB hM hr hW hs
 refine callsIn_of_wp Tryz.func69 rfl trivial ?_ rfl
 simp only [Tryz.ntmps69, List.size_toArray, List.length_cons, List.length_nil, Nat.reduceAdd, Nat.reduceSub, Array.replicate_succ, Array.replicate_zero, List.push_toArray, List.append_toArray, List.nil_append, List.cons_append]
 gi_wp2_with (first
  | (refine ⟨trivial, ?_⟩; gi_at_call 25; refine (callsIn_wide.2 HNEW.out).mono ?_; rintro e' W1 ⟨⟨p, q, rfl⟩, hb1⟩; have y0 := (HB.out.below hb1).cell 0 (v := .int .i64 (Tn : Int)) rfl; have y1 := (HB.out.below hb1).cell 1 (v := .int .i64 (Vn : Int)) rfl; have y2 := (HB.out.below hb1).cell 2 (v := .int .i64 (Sn : Int)) rfl; have HB1 := hid hb1; clear hb1)
  | (refine ⟨trivial, ?_⟩; gi_at_call 37; refine (callsIn_wide.2 (HCN.out _)).mono ?_; rintro e' W2 ⟨c, tb, sb, -, -, -, rfl, -, hb2⟩; have m0 := (HM.out.below (ext_trans HB1.out hb2)).cell 0 (v := .int .i64 0) rfl; have HB2 := hid (ext_trans HB1.out hb2); clear hb2))
 ((try simp only [Exit.inBlock, Exit.then]); refine bodyPost_ret (results_none rfl _ _ _) rfl ?_)
 exact ⟨⟨_, rfl⟩, ⟨[], HT.out _ HB2.out⟩, Blk.below HB2.out HR.out⟩
set_option maxRecDepth 100000 in
set_option maxHeartbeats 4000000 in
theorem events_some (n : Nat) (hn : 1 ≤ n) (T V S : Int) (s : ByteArray) (B Mb X rb many at_ : Nat) (w₀ w : World) (hs : 1 ≤ T ∧ T ≤ 6 ∧ 1 ≤ V ∧ V ≤ 32 ∧ 1 ≤ S ∧ S ≤ V) (hm : 0 < many ∧ many ≤ 1048576) (hss : s.size ≤ 16777216) (ha : at_ ≤ s.size) (hK : KindsAt w₀) (hTb : TabOk w₀) (hw : Below w₀.heap.size w₀ w) (v : Value)
  (hB : Blk w B #[.int .i64 T, .int .i64 V, .int .i64 S, v] 25) (hM : Blk w Mb #[.int .i64 (many : Int)] 3) (hX : Blk w X #[.pointer (some ⟨rb, 0, none⟩)] 63) (hr : RdrAt w rb s at_ 0) (hne : rb ≠ B ∧ rb ≠ Mb ∧ rb ≠ X) (hrb : w₀.heap.size ≤ rb) : EvRuns n T V S s B Mb X rb many at_ w₀ w := by
 unfold EvRuns
 obtain ⟨l, rf, hz⟩ : ∃ l rf, evR T V S many newC (newS T V S) ⟨byt s, at_, 0⟩ = (l, rf) := ⟨_, _, rfl⟩
 rw [hz]
 dsimp only
 intro lp J W hW hturn hY h0
 have hWW : Below w₀.heap.size w₀ W := hw.trans (hW.mono hw.size)
 have HB := hid (hB.below hW)
 have HM := hid (hM.below hW)
 have HX := hid (hX.below hW)
 have HR := hid (show RdrAt W rb s at_ 0 from Blk.below hW hr)
 have HTU := hid hturn
 have HY := hid hY
 have H0 := hid h0
 have HSZ := hid hs
 have HMN := hid hm
 have HSS := hid hss
 have HA := hid ha
 have HK := hid hK
 have HTB := hid hTb
 have HWW := hid hWW
 have HZ := hid hz
 have HNE := hid hne
 have HRB := hid hrb
 have x0 := HB.out.cell 0 (v := .int .i64 T) rfl
 have x1 := HB.out.cell 1 (v := .int .i64 V) rfl
 have x2 := HB.out.cell 2 (v := .int .i64 S) rfl
 have HNEW := hid (new_any T V S W (hK.below hWW) (by unfold sizesB; exact decide_eq_true (by omega)))
 obtain ⟨Tn, hTn⟩ := Int.eq_ofNat_of_zero_le (show 0 ≤ T by omega)
 obtain ⟨Vn, hVn⟩ := Int.eq_ofNat_of_zero_le (show 0 ≤ V by omega)
 obtain ⟨Sn, hSn⟩ := Int.eq_ofNat_of_zero_le (show 0 ≤ S by omega)
 have HCN := hid (fun W' => new_ok Tn Vn Sn W' (by omega) (by omega) (by omega) (by omega) (by omega))
 rw [← hTn, ← hVn, ← hSn] at HCN
 have g0 : ((many : Int) == 0) = false := beq_eq_false_iff_ne.2 (by omega)
 have g0' : (many == 0) = false := beq_eq_false_iff_ne.2 (by omega)
 clear hturn hY h0 hK hTb hB hM hX hr hW hs hm hss ha hw hWW hz hTn hVn hSn hne hrb
 refine callsIn_of_wp Tryz.func69 rfl trivial ?_ rfl
 simp only [Tryz.ntmps69, List.size_toArray, List.length_cons, List.length_nil, Nat.reduceAdd, Nat.reduceSub, Array.replicate_succ, Array.replicate_zero, List.push_toArray, List.append_toArray, List.nil_append, List.cons_append]
 gi_wp2_with (first
  | (refine ⟨trivial, ?_⟩; gi_at_call 25; refine (callsIn_wide.2 HNEW.out).mono ?_; rintro e' W1 ⟨C, rfl, hC0, hC, hb1⟩; have y0 := (HB.out.below hb1).cell 0 (v := .int .i64 T) rfl; have y1 := (HB.out.below hb1).cell 1 (v := .int .i64 V) rfl; have y2 := (HB.out.below hb1).cell 2 (v := .int .i64 S) rfl; have HB1 := hid hb1; have HC := hid hC; have HC0 := hid hC0; clear hb1 hC hC0)
  | (refine ⟨trivial, ?_⟩; gi_at_call 37; refine (callsIn_wide.2 (HCN.out _)).mono ?_; rintro e' W2 ⟨c, tb, sb, hc0, ht0, hs0, rfl, hck, hb2⟩; have m0 := (HM.out.below (ext_trans HB1.out hb2)).cell 0 (v := .int .i64 (many : Int)) rfl; have HB2 := hid (ext_trans HB1.out hb2); have HC2 := hid (HC.out.below hb2); have HCK := hid hck; have HCL := hid (And.intro hc0 (And.intro ht0 hs0)); clear hb2 hck hc0 ht0 hs0))
 have hC1 := HC.out.lt
 have hWl := HB2.out.size
 have hcl := HCL.out
 have hks : ∀ x ∈ [C, c, tb, sb], W.heap.size ≤ x := by
  intro x hx
  have := HC0.out
  have := HB1.out.size
  simp only [List.mem_cons, List.not_mem_nil, or_false] at hx
  omega
 have HJ0 := hid (HTU.out [C, c, tb, sb] 0 W W2 (H0.out _ hks) (Turn.of_below HB2.out))
 have hsz6 : sizeOk T V S = true := by have := HSZ.out; unfold sizeOk; exact decide_eq_true (by omega)
 have E0 : EvM T V S w₀ s X rb C c tb sb 0 newC (newS T V S) at_ W2 := ⟨HWW.out.trans (HB2.out.mono HWW.out.size), Blk.below HB2.out HR.out, HC2.out, HCK.out, HX.out.below HB2.out⟩
 have P0 : EvP T V S s many l rf 0 newC (newS T V S) at_ := ⟨okC_new (by have := HSZ.out; omega), newS_wf hsz6, newS_cm T V S, ⟨by have := HSZ.out; unfold newS; simp; omega, rfl, by have := HSZ.out; unfold newS Sh.n; simp; omega⟩, by rw [Nat.sub_zero, List.drop_zero]; exact HZ.out, HA.out⟩
 have HE0 := hid E0
 have HP0 := hid P0
 have HDJ : Hid (Apart w₀ B Mb X rb C c tb sb) := hid (by
  have q1 := Blk.lt HR.out
  have q2 := HB.out.lt
  have q3 := HM.out.lt
  have q4 := HX.out.lt
  have q5 := HC0.out
  have q6 := HRB.out
  exact ⟨q6, HNE.out, by omega, by omega, by omega, by omega, by omega, by omega, by omega⟩)
 have HMM : Hid (Blk W2 Mb #[.int .i64 (many : Int)] 3) := hid (HM.out.below HB2.out)
 clear E0 P0 hC1 hWl hcl hks hsz6 HC HC0 HC2 HCK HCL HB1 HB2 HR HB HM HX HNEW HCN HZ H0 x0 x1 x2 y0 y1 y2 HNE HRB
 gi_wp2
 gi_loopw [43] (fun i wr => ∃ (k : Nat) (ck : Cdr) (sk : Sh) (ak : Nat), k ≤ l.length ∧ k ≤ many ∧ i = .int .i64 (k : Int) ∧ Hid (J [C, c, tb, sb] k wr) ∧ Hid (EvM T V S w₀ s X rb C c tb sb k ck sk ak wr) ∧ Hid (EvP T V S s many l rf k ck sk ak)) (fun i _ => many - (intOf i).toNat)
 case atStart => exact ⟨0, _, _, _, Nat.zero_le _, Nat.zero_le _, rfl, HJ0, HE0, HP0⟩
 case round =>
  clear HJ0 HE0 HP0 HMM m0
  obtain ⟨k, ck, sk, ak, hkl, hkm, rfl, HJ, HE, HP⟩ := hrel
  have HKL := hid hkl
  by_cases hlt : k < many
  ·have j1 : decide ((k : Int) < (many : Int)) = true := by rw [decide_eq_true_iff]; omega
   have j2 : decide (k < many) = true := by rw [decide_eq_true_iff]; omega
   have j3 : IntKind.i64.wrap ((k : Int) + 1) = (k : Int) + 1 := IntWalk.i64_in _ (by have := HMN.out; omega)
   have cX := HE.out.bX.cell 0 (v := .pointer (some ⟨rb, 0, none⟩)) rfl
   have HAT := hid (rAt_any rb s ak 0 wr HE.out.rd)
   have hs := HSZ.out
   have hA := HDJ.out
   have HRD := hid (dread_any T V S ck s ak C rb wr HE.out.co ⟨hs.1, hs.2.1⟩ ⟨hs.2.2.1, hs.2.2.2.1⟩ ⟨hs.2.2.2.2.1, hs.2.2.2.2.2⟩ HP.out.ok HE.out.rd HSS.out HP.out.le (by have := hA.2.2.1; omega))
   have hTw := readC_two (T := T) (V := V) (S := S) (c := ck) (s := byt s) (at_ := ak) hs HP.out.ok (byt_lt s) (by rw [byt_len]; exact HP.out.le)
   have hev := HP.out.ev
   rw [show many - k = (many - (k + 1)) + 1 by omega] at hev
   have HLT := hid hlt
   clear hs hA hlt hkl hkm
   rcases hTw with ⟨r', he, hle, hz⟩ | ⟨ev, m, hmm, ht, hok, hoc, hle, hbs, hz⟩
   ·rw [evR_err hz he] at hev
    obtain ⟨h1, h2⟩ := Prod.mk.inj hev
    have hkl : k = l.length := by
     have h3 := congrArg List.length h1
     rw [List.length_nil, List.length_drop] at h3
     have := HKL.out; omega
    rw [hz] at HRD
    unfold ReadEP at HRD
    dsimp only [evA] at HRD
    have j4 : ((r'.err : Int) != 0) = true := by rw [bne_iff_ne]; omega
    have j5 : ((r'.err : Int) == 0) = false := by rw [beq_eq_false_iff_ne]; omega
    have HH := hid (And.intro h2 hkl)
    clear hev h1 h2 hkl he hle hz
    gi_wp2_with (first
     | (refine ⟨trivial, ?_⟩; gi_at_call 31; refine (callsIn_wide.2 HAT.out).mono ?_; rintro e' w1 ⟨rfl, rfl⟩)
     | (refine ⟨trivial, ?_⟩; gi_at_call 70; refine (callsIn_wide.2 HRD.out).mono ?_; rintro e' w1 ⟨rfl, hC1, hR1, hT1⟩; have HR1 := hid hR1; have HT1 := hid hT1; clear hC1 hR1 hT1))
    ((try simp only [Exit.inBlock, Exit.then]); refine bodyPost_ret (results_none rfl _ _ _) rfl ?_)
    have hbz := ext_alloc (ext_refl w1) (.cells #[.int .u8 0, .int .i64 0, .int .i64 0, .int .i64 0, .int .i64 0, .int .i64 0, .int .u8 0] 50)
    refine ⟨⟨_, rfl⟩, ⟨[C, c, tb, sb], ?_⟩, ?_⟩
    ·rw [← HH.out.2]
     exact HTU.out _ _ _ _ HJ.out ((HT1.out.mono (sub1 _ _ _ _ _)).trans (Turn.of_below hbz))
    ·rw [← HH.out.1]
     exact Blk.below hbz HR1.out
   ·have HOKE := hid hok
    have HOC := hid hoc
    have HLE := hid (show ak + m ≤ s.size by rw [byt_len] at hle; exact hle)
    rw [hz] at HRD
    unfold ReadEP at HRD
    have hcm : ∀ i, i < sk.ths.length → (sk.ths.getD i Th.zero).commits ≤ 1048576 := fun i hi => by
     have h1 := HP.out.cm i hi
     have := HLT.out
     have := HMN.out
     omega
    have HCM := hid hcm
    cases hst : stepS sk ev with
    | none =>
     rw [evR_none hz hst] at hev
     obtain ⟨h1, h2⟩ := Prod.mk.inj hev
     have hkl : k = l.length := by
      have h3 := congrArg List.length h1
      rw [List.length_nil, List.length_drop] at h3
      have := HKL.out; omega
     have HH := hid (And.intro h2 hkl)
     have HST := hid hst
     obtain ⟨kind, th, tx, ea, v', x, why⟩ := ev
     dsimp only [evA] at HRD
     clear hev h1 h2 hkl hle hz hmm ht hok hoc hbs hcm hst
     gi_wp2_with (first
      | (refine ⟨trivial, ?_⟩; gi_at_call 31; refine (callsIn_wide.2 HAT.out).mono ?_; rintro e' w1 ⟨rfl, rfl⟩)
      | (refine ⟨trivial, ?_⟩; gi_at_call 70; refine (callsIn_wide.2 HRD.out).mono ?_; rintro e' w1 ⟨rfl, hC1, hR1, hT1⟩; have hE1 := HE.out.read HDJ.out hC1 hR1 hT1; have HT1 := hid hT1; have hez := Blk.new w1 #[.int .u8 kind, .int .i64 th, .int .i64 tx, .int .i64 ea, .int .i64 v', .int .i64 x, .int .u8 why] 50; have e0 := hez.cell 0 (v := .int .u8 kind) rfl; have e1 := hez.cell 1 (v := .int .i64 th) rfl; have e2 := hez.cell 2 (v := .int .i64 tx) rfl; have e3 := hez.cell 3 (v := .int .i64 ea) rfl; have e4 := hez.cell 4 (v := .int .i64 v') rfl; have e5 := hez.cell 5 (v := .int .i64 x) rfl; have e6 := hez.cell 6 (v := .int .u8 why) rfl; have hEz := hE1.below (ext_alloc (ext_refl w1) (.cells #[.int .u8 kind, .int .i64 th, .int .i64 tx, .int .i64 ea, .int .i64 v', .int .i64 x, .int .u8 why] 50)); have HNX := hid (next_all hEz.ch HP.out.wf HCM.out (HK.out.below hEz.be) (HTB.out.below hEz.be) (show k < 1048576 from (by have := HLT.out; have := HMN.out; omega)) ⟨kind, th, tx, ea, v', x, why⟩ HOKE.out); dsimp only [evA] at HNX; rw [HST.out] at HNX; have HEZ := hid hEz; clear hC1 hR1 hT1 hE1 hez hEz)
      | (refine ⟨trivial, ?_⟩; gi_at_call 38; refine (callsIn_wide.2 HNX.out).mono ?_; intro e' w2 hnx; obtain ⟨rfl, hck, hT2⟩ := next_none hnx; have hE2 := HEZ.out.next HDJ.out hck hT2; have HT2 := hid hT2; have cX2 := hE2.bX.cell 0 (v := .pointer (some ⟨rb, 0, none⟩)) rfl; have HF := hid (rfailW_any rb s (ak + m) 0 ak 4 w2 hE2.rd (Nat.le_add_right _ _) (by decide)); clear hnx hck hT2 hE2)
      | (refine ⟨trivial, ?_⟩; gi_at_call 33; refine (callsIn_wide.2 HF.out).mono ?_; rintro e' w3 ⟨⟨v3, rfl⟩, hr3, hT3⟩; have HR3 := hid hr3; have HT3 := hid hT3; clear hr3 hT3))
     ((try simp only [Exit.inBlock, Exit.then]); refine bodyPost_ret (results_none rfl _ _ _) rfl ?_)
     have hbz := ext_alloc (ext_refl w1) (.cells #[.int .u8 kind, .int .i64 th, .int .i64 tx, .int .i64 ea, .int .i64 v', .int .i64 x, .int .u8 why] 50)
     refine ⟨⟨_, rfl⟩, ⟨[C, c, tb, sb], ?_⟩, ?_⟩
     ·rw [← HH.out.2]
      exact HTU.out _ _ _ _ HJ.out ((((HT1.out.mono (sub1 _ _ _ _ _)).trans (Turn.of_below hbz)).trans (HT2.out.mono (sub2 _ _ _ _ _))).trans (HT3.out.mono (sub3 _ _ _ _ _)))
     ·rw [← HH.out.1]
      exact HR3.out
    | some s' =>
     rw [evR_some hz hst] at hev
     obtain ⟨h1, h2⟩ := Prod.mk.inj hev
     obtain ⟨d1, d2, d3⟩ := drop_cons h1.symm
     have HP' : Hid (EvP T V S s many l rf (k + 1) (knowsC ck ev) s' (ak + m)) := hid ⟨HOC.out, stepS_wf HP.out.wf hst, HP.out.cm.step hst, by
      obtain ⟨q1, q2, q3⟩ := stepS_sizes hst
      have := HP.out.sz
      exact ⟨by rw [q1]; exact this.1, by rw [q2]; exact this.2.1, by rw [q3]; exact this.2.2⟩, by rw [d3, ← h2], HLE.out⟩
     have HYK := hid (fun W1 hJ hlt => HY.out [C, c, tb, sb] k W1 hJ hlt d1)
     rw [d2] at HYK
     have HST := hid hst
     have HD1 := hid d1
     obtain ⟨kind, th, tx, ea, v', x, why⟩ := ev
     dsimp only [evA] at HRD HYK
     clear hev h1 h2 hle hz hmm ht hok hoc hbs hcm hst d1 d2 d3
     gi_wp2_with (first
      | (refine ⟨trivial, ?_⟩; gi_at_call 31; refine (callsIn_wide.2 HAT.out).mono ?_; rintro e' w1 ⟨rfl, rfl⟩)
      | (refine ⟨trivial, ?_⟩; gi_at_call 70; refine (callsIn_wide.2 HRD.out).mono ?_; rintro e' w1 ⟨rfl, hC1, hR1, hT1⟩; have hE1 := HE.out.read HDJ.out hC1 hR1 hT1; have HT1 := hid hT1; have hez := Blk.new w1 #[.int .u8 kind, .int .i64 th, .int .i64 tx, .int .i64 ea, .int .i64 v', .int .i64 x, .int .u8 why] 50; have e0 := hez.cell 0 (v := .int .u8 kind) rfl; have e1 := hez.cell 1 (v := .int .i64 th) rfl; have e2 := hez.cell 2 (v := .int .i64 tx) rfl; have e3 := hez.cell 3 (v := .int .i64 ea) rfl; have e4 := hez.cell 4 (v := .int .i64 v') rfl; have e5 := hez.cell 5 (v := .int .i64 x) rfl; have e6 := hez.cell 6 (v := .int .u8 why) rfl; have hEz := hE1.below (ext_alloc (ext_refl w1) (.cells #[.int .u8 kind, .int .i64 th, .int .i64 tx, .int .i64 ea, .int .i64 v', .int .i64 x, .int .u8 why] 50)); have HNX := hid (next_all hEz.ch HP.out.wf HCM.out (HK.out.below hEz.be) (HTB.out.below hEz.be) (show k < 1048576 from (by have := HLT.out; have := HMN.out; omega)) ⟨kind, th, tx, ea, v', x, why⟩ HOKE.out); dsimp only [evA] at HNX; rw [HST.out] at HNX; have HEZ := hid hEz; have HEB := hid hez; have HLT1 := hid (And.intro hE1.ch.ck.lt (And.intro hE1.ch.th.lt hE1.ch.st.lt)); clear hC1 hR1 hT1 hE1 hez hEz)
      | (refine ⟨trivial, ?_⟩; gi_at_call 38; refine (callsIn_wide.2 HNX.out).mono ?_; intro e' w2 hnx; obtain ⟨rfl, hck, hT2⟩ := next_some hnx; have hE2 := HEZ.out.next HDJ.out hck hT2; have hez2 := hT2.blk (k := w1.heap.size) (by have := HLT1.out; simp only [List.mem_cons, List.not_mem_nil, or_false]; omega) HEB.out; clear e0 e1 e2 e3 e4 e5 e6; have e0 := hez2.cell 0 (v := .int .u8 kind) rfl; have e1 := hez2.cell 1 (v := .int .i64 th) rfl; have e2 := hez2.cell 2 (v := .int .i64 tx) rfl; have e3 := hez2.cell 3 (v := .int .i64 ea) rfl; have e4 := hez2.cell 4 (v := .int .i64 v') rfl; have e5 := hez2.cell 5 (v := .int .i64 x) rfl; have e6 := hez2.cell 6 (v := .int .u8 why) rfl; have hJ2 := HTU.out [C, c, tb, sb] k _ w2 HJ.out (((HT1.out.mono (sub1 _ _ _ _ _)).trans (Turn.of_below (ext_alloc (ext_refl w1) (.cells #[.int .u8 kind, .int .i64 th, .int .i64 tx, .int .i64 ea, .int .i64 v', .int .i64 x, .int .u8 why] 50)))).trans (hT2.mono (sub2 _ _ _ _ _))); obtain ⟨fn, tmps, assign, body, hy, hR⟩ := HYK.out w2 hJ2 (by have q1 := hE2.co.lt; have q2 := hE2.ch.ck.lt; have q3 := hE2.ch.th.lt; have q4 := hE2.ch.st.lt; intro z hz; simp only [List.mem_cons, List.not_mem_nil, or_false] at hz; omega); (try dsimp only at hy); have HE2 := hid hE2; clear hnx hck hT2 hE2 hez2 hJ2))
     refine hR.mono ?_
     rintro e' W3 ⟨rfl, hJ3, hk3⟩
     have HE3 := hid (HE2.out.keep hk3)
     have HJ3 := hid hJ3
     clear hJ3 hk3 e0 e1 e2 e3 e4 e5 e6
     gi_wp2
     go_roundw
     case rel => exact ⟨k + 1, knowsC ck ⟨kind, th, tx, ea, v', x, why⟩, s', ak + m, by have := HD1.out; omega, by have := HLT.out; omega, by simp, HJ3, HE3, HP'⟩
     case measure => have := HLT.out; simp [intOf]; omega
  ·obtain rfl : k = many := by omega
   have j1 : decide ((k : Int) < (k : Int)) = false := by rw [decide_eq_false_iff_not]; omega
   have j2 : decide (k < k) = false := by rw [decide_eq_false_iff_not]; omega
   have hev := HP.out.ev
   rw [Nat.sub_self, evR] at hev
   obtain ⟨h1, h2⟩ := Prod.mk.inj hev
   have hkl' : k = l.length := by
    have h3 := congrArg List.length h1
    rw [List.length_nil, List.length_drop] at h3
    have := HKL.out; omega
   have HH := hid (And.intro h2 hkl')
   clear hev h1 h2 hkl'
   gi_wp2
   go_end0
   refine ⟨⟨_, rfl⟩, ⟨[C, c, tb, sb], ?_⟩, ?_⟩
   ·rw [← HH.out.2]; exact HJ.out
   ·rw [← HH.out.1]; exact HE.out.rd
end Go.Proofs.YtnblhodhkifeeaaGreatDoor
/-
 Walk: trace.Decode, where no events are reached.
-/
namespace Go.Proofs.YtnblhodhkifeeaaGreatDoor
set_option linter.unusedVariables false
set_option linter.unusedSimpArgs false
open Go Go.RowKit
def decL (s : List Nat) : Tr × Nat × Nat :=
 let u := unwrapL s
 if u.2.2 ≠ 0 then (Tr.zero, u.2.1, u.2.2) else let a := bodyR u.1; if a.2.err ≠ 0 then (Tr.zero, s.length - u.1.length - 4 + a.2.at_, a.2.err) else (a.1, 0, 0)
def DecP (d : Tr × Nat × Nat) (w : World) (e' : Ending) (w' : World) : Prop :=
 ∃ av cap, e' = .returned (.tuple #[trA d.1.T d.1.V d.1.S av d.1.l.length cap, .int .i64 (d.2.1 : Int), .int .i64 (d.2.2 : Int)]) ∧ EvsAt w' av d.1.l ∧ Below w.heap.size w w'
theorem EvsAt.nil (w : World) : EvsAt w none [] := ⟨fun e h => (by cases h), fun h => absurd rfl h⟩
theorem tset4 {w : World} {b : Nat} {c0 c1 c2 c3 : Value} {t : TypeId} (h : Blk w b #[c0, c1, c2, c3] t) (v0 v1 v2 v3 : Value) : Blk ((((w.setCell ⟨b, 0, none⟩ v0).setCell ⟨b, 1, none⟩ v1).setCell ⟨b, 2, none⟩ v2).setCell ⟨b, 3, none⟩ v3) b #[v0, v1, v2, v3] t := by
 have := (((h.set 0 v0).set 1 v1).set 2 v2).set 3 v3
 simpa using this
theorem tbelow4 {B : Nat} {a w : World} {b : Nat} (h : Below B a w) (hb : B ≤ b) (v0 v1 v2 v3 : Value) : Below B a ((((w.setCell ⟨b, 0, none⟩ v0).setCell ⟨b, 1, none⟩ v1).setCell ⟨b, 2, none⟩ v2).setCell ⟨b, 3, none⟩ v3) :=
 (((h.setCell (p := ⟨b, 0, none⟩) hb v0).setCell (p := ⟨b, 1, none⟩) hb v1).setCell (p := ⟨b, 2, none⟩) hb v2).setCell (p := ⟨b, 3, none⟩) hb v3
set_option maxRecDepth 100000 in
set_option maxHeartbeats 4000000 in
theorem dec_frame (s : ByteArray) (w : World) (hs : s.size ≤ 9223372036854775807) (hu : (unwrapL (byt s)).2.2 ≠ 0) : Calls Tryz.prog 13 #[.string s] w (DecP (decL (byt s)) w) := by
 have hd : decL (byt s) = (Tr.zero, (unwrapL (byt s)).2.1, (unwrapL (byt s)).2.2) := by unfold decL; dsimp only; rw [if_pos hu]
 rw [hd]
 obtain ⟨W1, hW1⟩ : ∃ W1, W1 = w.alloc (.cells #[.int .i64 0, .int .i64 0, .int .i64 0, .slice none 0 0] 25) := ⟨_, rfl⟩
 have hb1 : Below w.heap.size w W1 := by rw [hW1]; exact ext_alloc (ext_refl _) _
 have ht1 : Blk W1 w.heap.size #[.int .i64 0, .int .i64 0, .int .i64 0, .slice none 0 0] 25 := by rw [hW1]; exact Blk.new _ _ _
 have HU := hid (unwrap_x s W1 hs)
 obtain ⟨u, p, c, hupc⟩ : ∃ u p c, unwrapL (byt s) = (u, p, c) := ⟨_, _, _, rfl⟩
 rw [hupc] at HU hu ⊢
 dsimp only at HU hu ⊢
 have j1 : ((c : Int) != 0) = true := by rw [bne_iff_ne]; omega
 have j2 : ((c : Int) == 0) = false := by rw [beq_eq_false_iff_ne]; omega
 obtain ⟨Q, hQ⟩ : ∃ Q, Q = DecP (Tr.zero, p, c) w := ⟨_, rfl⟩
 rw [← hQ]
 have HQ := hid hQ
 have HB1 := hid hb1
 have HT1 := hid ht1
 have HW1 := hid hW1
 clear hs hu hd hupc hQ hb1 ht1 hW1
 go_enter Tryz.func13, Tryz.ntmps13
 go_wp2_with fail
 rw [← HW1.out]
 refine HU.out.mono ?_
 rintro e' W2 ⟨rfl, hb2⟩
 have ht2 := HT1.out.below hb2
 have c0 := ht2.cell 0 (v := .int .i64 0) rfl
 have c1 := ht2.cell 1 (v := .int .i64 0) rfl
 have c2 := ht2.cell 2 (v := .int .i64 0) rfl
 have c3 := ht2.cell 3 (v := .slice none 0 0) rfl
 have f0 := ht2.free 0
 have f1 := ht2.free 1
 have f2 := ht2.free 2
 have f3 := ht2.free 3
 have HT2 := hid ht2
 have HB2 := hid (ext_trans HB1.out hb2)
 clear hb2 ht2
 go_wp2_with fail
 have hF := tset4 HT2.out (.int .i64 0) (.int .i64 0) (.int .i64 0) (.slice none 0 0)
 have q0 := hF.cell 0 (v := .int .i64 0) rfl
 have q1 := hF.cell 1 (v := .int .i64 0) rfl
 have q2 := hF.cell 2 (v := .int .i64 0) rfl
 have q3 := hF.cell 3 (v := .slice none 0 0) rfl
 exact bodyPost_ret (v := .tuple #[.agg #[.int .i64 0, .int .i64 0, .int .i64 0, .slice none 0 0], .int .i64 (p : Int), .int .i64 (c : Int)]) (by simp [results, Tryz.results13, go_sem, q0, q1, q2, q3]) rfl (by
  rw [HQ.out]
  exact ⟨none, 0, rfl, EvsAt.nil _, tbelow4 HB2.out (Nat.le_refl _) _ _ _ _⟩)
structure DeI (w : World) (sb : ByteArray) (Tb X rb : Nat) (cs : Array Value) (r : Rdr) (wr : World) : Prop where
 tb : Blk wr Tb cs 25
 rd : RdrAt wr rb sb r.at_ r.err
 bx : Blk wr X #[.pointer (some ⟨rb, 0, none⟩)] 63
 re : RdE (byt sb) r
 be : Below w.heap.size w wr
 ap : w.heap.size ≤ Tb ∧ Tb < rb ∧ rb < X ∧ X < wr.heap.size
theorem rde_eta {b : List Nat} {r : Rdr} (h : RdE b r) : (⟨b, r.at_, r.err⟩ : Rdr) = r := by
 obtain ⟨a1, a2, a3⟩ := r
 have := h.s
 dsimp only at this
 rw [this]
section
variable {w wr w' : World} {sb : ByteArray} {Tb X rb : Nat} {cs : Array Value} {r : Rdr}
theorem DeI.below (h : DeI w sb Tb X rb cs r wr) (hb : Below wr.heap.size wr w') : DeI w sb Tb X rb cs r w' :=
 ⟨h.tb.below hb, Blk.below hb h.rd, h.bx.below hb, h.re, ext_trans h.be hb, ⟨h.ap.1, h.ap.2.1, h.ap.2.2.1, Nat.lt_of_lt_of_le h.ap.2.2.2 hb.size⟩⟩
theorem DeI.turn (h : DeI w sb Tb X rb cs r wr) {r' : Rdr} (hr : RdrAt w' rb sb r'.at_ r'.err) (he : RdE (byt sb) r') (hT : Turn [rb] wr w') : DeI w sb Tb X rb cs r' w' := by
 obtain ⟨a1, a2, a3, a4⟩ := h.ap
 refine ⟨hT.blk (by simp only [List.mem_singleton]; omega) h.tb, hr, hT.blk (by simp only [List.mem_singleton]; omega) h.bx, he, h.be.trans (hT.below (fun x hx => ?_) h.be.size), ⟨a1, a2, a3, Nat.lt_of_lt_of_le a4 hT.size⟩⟩
 simp only [List.mem_singleton] at hx
 omega
theorem DeI.set (h : DeI w sb Tb X rb cs r wr) (k : Nat) (v : Value) : DeI w sb Tb X rb (cs.setIfInBounds k v) r (wr.setCell ⟨Tb, k, none⟩ v) := by
 obtain ⟨a1, a2, a3, a4⟩ := h.ap
 exact ⟨h.tb.set k v, Blk.set_other h.rd ⟨Tb, k, none⟩ v (by show rb ≠ Tb; omega), h.bx.set_other ⟨Tb, k, none⟩ v (by show X ≠ Tb; omega), h.re, h.be.setCell (p := ⟨Tb, k, none⟩) a1 v, ⟨a1, a2, a3, by simpa [World.setCell] using a4⟩⟩
theorem DeI.size (h : DeI w sb Tb X rb cs r wr) (least most : Nat) (hs : sb.size ≤ 16777216) (hl : least ≤ 1) (hm : most ≤ 1048576) :
  Calls Tryz.prog 30 #[.int .i64 (least : Int), .int .i64 (most : Int), .pointer (some ⟨X, 0, none⟩)] wr fun e' w' => e' = .returned (.int .i64 ((sizeR r least most).1 : Int)) ∧ DeI w sb Tb X rb cs (sizeR r least most).2 w' := by
 have hx := h.ap
 refine (size_any X rb sb r.at_ r.err least most wr h.bx h.rd hs (by have := h.re.at_; rwa [byt_len] at this) hl hm (by omega)).mono fun e' w' hh => ?_
 obtain ⟨h1, h2, h3⟩ := hh
 rw [rde_eta h.re] at h1 h2
 exact ⟨h1, h.turn h2 (sizeR_e (byt_lt sb) h.re least most) h3⟩
theorem DeI.fin (h : DeI w sb Tb X rb cs r wr) (hs : sb.size ≤ 16777216) : Calls Tryz.prog 36 #[.pointer (some ⟨rb, 0, none⟩)] wr fun e' w' => (∃ v, e' = .returned v) ∧ DeI w sb Tb X rb cs (finR r) w' ∧ Turn [rb] wr w' := by
 refine (rend_any rb sb r.at_ r.err wr h.rd hs (by have := h.re.at_; rwa [byt_len] at this)).mono fun e' w' hh => ?_
 obtain ⟨h1, h2, h3⟩ := hh
 rw [rde_eta h.re, ← finR_end] at h2
 exact ⟨⟨_, h1⟩, h.turn h2 (finR_e h.re) h3, h3⟩
theorem DeI.wrong (h : DeI w sb Tb X rb cs r wr) : Calls Tryz.prog 34 #[.pointer (some ⟨rb, 0, none⟩)] wr fun e' w' => e' = .returned (.tuple #[.int .i64 (if r.err = 0 then 0 else (r.at_ : Int)), .int .i64 (r.err : Int)]) ∧ DeI w sb Tb X rb cs r w' ∧ Turn [rb] wr w' :=
 (rWrong_any rb sb r.at_ r.err wr h.rd).mono fun e' w' hh => ⟨hh.1, h.below hh.2, Turn.of_below hh.2⟩
end
theorem frame_body {s : ByteArray} {u : List Nat} {p : Nat} (h : unwrapL (byt s) = (u, p, 0)) : s.size ≤ 16777216 ∧ (∀ x ∈ u, x < 256) ∧ byt (bstr u) = u ∧ (bstr u).size = u.length ∧ u.length + 5 ≤ s.size := by
 have hb : ∀ x ∈ u, x < 256 := fun x hx => byt_lt s x ((unwrap_sub h).2 x hx)
 obtain ⟨h1, -⟩ := wrap_unwrap (byt_lt s) h
 have hl : (byt s).length = s.size := byt_len s
 have hs : s.size ≤ 16777216 := by
  unfold unwrapL at h
  split at h
  ·cases h
  ·omega
 refine ⟨hs, hb, byt_bstr hb, by rw [bstr_size], ?_⟩
 unfold wrapL at h1
 split at h1
 ·exact absurd (Prod.mk.inj h1).2 (by decide)
 ·have h2 := congrArg List.length (Prod.mk.inj h1).1
  rw [List.length_append, List.length_append, hl] at h2
  have h3 := putN_pos u.length
  have h4 : ∀ r, (sealN r).length = 4 := fun r => rfl
  rw [h4] at h2
  omega
theorem decL_bad {s u : List Nat} {p : Nat} {t : Tr} {r : Rdr} (hu : unwrapL s = (u, p, 0)) (hb : bodyR u = (t, r)) (he : r.err ≠ 0) : decL s = (Tr.zero, s.length - u.length - 4 + r.at_, r.err) := by
 unfold decL
 rw [hu]
 dsimp only
 rw [if_neg (by simp), hb]
 dsimp only
 rw [if_pos he]
theorem decL_good {s u : List Nat} {p : Nat} {t : Tr} {r : Rdr} (hu : unwrapL s = (u, p, 0)) (hb : bodyR u = (t, r)) (he : r.err = 0) : decL s = (t, 0, 0) := by
 unfold decL
 rw [hu]
 dsimp only
 rw [if_neg (by simp), hb]
 dsimp only
 rw [if_neg (by omega)]
theorem place_is' {n m a : Nat} (h : m + 4 ≤ n) (hn : n ≤ 16777216) (ha : a ≤ m) : IntKind.i64.wrap ((n : Int) - (m : Int)) = (n : Int) - (m : Int) ∧ IntKind.i64.wrap ((n : Int) - (m : Int) - 4) = (n : Int) - (m : Int) - 4 ∧ IntKind.i64.wrap ((n : Int) - (m : Int) - 4 + (a : Int)) = ((n - m - 4 + a : Nat) : Int) := by
 refine ⟨IntWalk.i64_in _ (by omega), IntWalk.i64_in _ (by omega), ?_⟩
 rw [IntWalk.i64_in _ (by omega)]
 omega
set_option maxRecDepth 100000 in
set_option maxHeartbeats 4000000 in
theorem dec_head (s : ByteArray) (u : List Nat) (p T V S m : Nat) (rz : Rdr) (w : World) (hu : unwrapL (byt s) = (u, p, 0)) (hh : headR u = (T, V, S, m, rz)) (he : rz.err ≠ 0) : Calls Tryz.prog 13 #[.string s] w (DecP (decL (byt s)) w) := by
 obtain ⟨hs1, hub, hbb, hbs, hul⟩ := frame_body hu
 have hre := headR_e hub
 rw [hh] at hre
 dsimp only at hre
 rw [decL_bad hu (bodyR_bad hh he) he, byt_len]
 obtain ⟨j1, j2, j3⟩ := place_is' (n := s.size) (m := u.length) (a := rz.at_) (by omega) hs1 hre.at_
 obtain ⟨T', V', S', m', r1, r2, r3, r4, h0, h1, h2, h3, h4⟩ := headR_parts u
 rw [hh] at h0
 obtain ⟨e1, e2⟩ := Prod.mk.inj h0
 obtain ⟨e2, e3⟩ := Prod.mk.inj e2
 obtain ⟨e3, e4⟩ := Prod.mk.inj e3
 obtain ⟨e4, e5⟩ := Prod.mk.inj e4
 subst e1; subst e2; subst e3; subst e4; subst e5
 have hV32 : V ≤ 32 := by have := sizeR_most r1 1 32; rw [h2] at this; exact this
 obtain ⟨sb, hsb⟩ : ∃ sb, sb = bstr u := ⟨_, rfl⟩
 rw [← hsb] at hbb hbs
 obtain ⟨W1, hW1⟩ : ∃ W1, W1 = w.alloc (.cells #[.int .i64 0, .int .i64 0, .int .i64 0, .slice none 0 0] 25) := ⟨_, rfl⟩
 have hb1 : Below w.heap.size w W1 := by rw [hW1]; exact ext_alloc (ext_refl _) _
 have ht1 : Blk W1 w.heap.size #[.int .i64 0, .int .i64 0, .int .i64 0, .slice none 0 0] 25 := by rw [hW1]; exact Blk.new _ _ _
 have HU := hid (unwrap_x s W1 (by omega))
 rw [hu] at HU
 dsimp only at HU
 rw [← hsb] at HU
 have hsbs : sb.size ≤ 16777216 := by omega
 obtain ⟨plc, hplc⟩ : ∃ plc, plc = s.size - u.length - 4 + rz.at_ := ⟨_, rfl⟩
 rw [← hbs] at j1 j2 j3
 rw [hbs, ← hplc] at j3
 rw [← hplc]
 rw [← hbs] at j3
 obtain ⟨Q, hQ⟩ : ∃ Q, Q = DecP (Tr.zero, plc, rz.err) w := ⟨_, rfl⟩
 rw [← hQ]
 have HQ := hid hQ
 have HB1 := hid hb1
 have HT1 := hid ht1
 have HW1 := hid hW1
 have HBB := hid hbb
 have HSB := hid hsbs
 have H1 := hid h1
 have H2 := hid h2
 have H3 := hid h3
 have H4 := hid h4
 have HV := hid hV32
 have HE := hid he
 have k1 : ((rz.err : Int) == 0) = false := beq_eq_false_iff_ne.2 (by omega)
 have k2 : (rz.err == 0) = false := beq_eq_false_iff_ne.2 he
 have k3 : ((rz.err : Int) != 0) = true := bne_iff_ne.2 (by omega)
 have k4 : (rz.err != 0) = true := bne_iff_ne.2 he
 clear hu hh he hre hs1 hub hbb hbs hul h0 h1 h2 h3 h4 hV32 hsb hb1 ht1 hW1 hsbs hplc hQ
 go_enter Tryz.func13, Tryz.ntmps13
 go_wp2_with fail
 rw [← HW1.out]
 refine HU.out.mono ?_
 rintro e' W2 ⟨rfl, hb2⟩
 have HT2 := hid (HT1.out.below hb2)
 have HB2 := hid (ext_trans HB1.out hb2)
 clear hb2 HT1 HB1 HW1 HU
 go_wp2_with fail
 refine (newReader_any sb W2 HSB.out).mono ?_
 rintro e' W3 ⟨rfl, hr3, hb3⟩
 have D0 : DeI w sb w.heap.size W3.heap.size W2.heap.size #[.int .i64 0, .int .i64 0, .int .i64 0, .slice none 0 0] ⟨u, 0, 0⟩ (W3.alloc (.cells #[.pointer (some ⟨W2.heap.size, 0, none⟩)] 63)) := by
  have hbz := ext_alloc (ext_refl W3) (.cells #[.pointer (some ⟨W2.heap.size, 0, none⟩)] 63)
  have hbn := Blk.new W3 #[.pointer (some ⟨W2.heap.size, 0, none⟩)] 63
  exact ⟨(HT2.out.below hb3).below hbz, Blk.below hbz hr3, hbn, ⟨HBB.out.symm, Nat.zero_le _, Or.inl rfl⟩, ext_trans (ext_trans HB2.out hb3) hbz, ⟨Nat.le_refl _, HT2.out.lt, Blk.lt hr3, hbn.lt⟩⟩
 have HD0 := hid D0
 generalize hXg : W3.heap.size = X at HD0 D0
 generalize W2.heap.size = rb at *
 have HS0 := hid (D0.size 0 6 HSB.out (by omega) (by omega))
 rw [H1.out] at HS0
 clear hr3 hb3 D0 HT2 HB2
 go_wp2_with fail
 refine HS0.out.mono ?_
 rintro e' W4 ⟨rfl, D1⟩
 have D1' : DeI w sb w.heap.size X rb #[.int .i64 (T : Int), .int .i64 0, .int .i64 0, .slice none 0 0] r1 (W4.setCell ⟨w.heap.size, 0, none⟩ (.int .i64 (T : Int))) := D1.set 0 _
 have f0 := D1.tb.free 0
 have c0 := D1.tb.cell 0 (v := .int .i64 0) rfl
 have HS1 := hid (D1'.size 1 32 HSB.out (by omega) (by omega))
 rw [H2.out] at HS1
 clear D1 D1' HD0 HS0
 go_wp2_with fail
 clear f0 c0
 refine HS1.out.mono ?_
 rintro e' W5 ⟨rfl, D2⟩
 have D2' : DeI w sb w.heap.size X rb #[.int .i64 (T : Int), .int .i64 (V : Int), .int .i64 0, .slice none 0 0] r2 (W5.setCell ⟨w.heap.size, 1, none⟩ (.int .i64 (V : Int))) := D2.set 1 _
 have f1 := D2.tb.free 1
 have c1 := D2.tb.cell 1 (v := .int .i64 0) rfl
 have d1 := D2'.tb.cell 1 (v := .int .i64 (V : Int)) rfl
 have HS2 := hid (D2'.size 1 V HSB.out (by omega) (by have := HV.out; omega))
 rw [H3.out] at HS2
 clear D2 D2' HS1
 go_wp2_with fail
 clear f1 c1 d1
 refine HS2.out.mono ?_
 rintro e' W6 ⟨rfl, D3⟩
 have D3' : DeI w sb w.heap.size X rb #[.int .i64 (T : Int), .int .i64 (V : Int), .int .i64 (S : Int), .slice none 0 0] r3 (W6.setCell ⟨w.heap.size, 2, none⟩ (.int .i64 (S : Int))) := D3.set 2 _
 have f2 := D3.tb.free 2
 have c2 := D3.tb.cell 2 (v := .int .i64 0) rfl
 have d0 := D3'.tb.cell 0 (v := .int .i64 (T : Int)) rfl
 have HS3 := hid (D3'.size 0 (if T = 0 then 0 else 1048576) HSB.out (by omega) (by split <;> omega))
 rw [H4.out] at HS3
 clear D3 D3' HS2
 by_cases hT : T = 0
 case' pos =>
  have t1 : ((T : Int) == 0) = true := by rw [hT]; rfl
  have t2 : (T == 0) = true := by rw [hT]; rfl
  rw [if_pos hT] at HS3
 case' neg =>
  have t1 : ((T : Int) == 0) = false := beq_eq_false_iff_ne.2 (by omega)
  have t2 : (T == 0) = false := beq_eq_false_iff_ne.2 hT
  rw [if_neg hT] at HS3
 all_goals
  clear hT
  go_wp2_with fail
  clear f2 c2 d0 t1 t2
  refine HS3.out.mono ?_
  rintro e' W7 ⟨rfl, D4⟩
  have x0 := D4.bx.cell 0 (v := .pointer (some ⟨rb, 0, none⟩)) rfl
  have HWR := hid D4.wrong
  clear D4 HS3
  go_wp2_with fail
  clear x0
  refine HWR.out.mono ?_
  rintro e' W8 ⟨rfl, D5, -⟩
  rw [if_neg HE.out]
  have x0 := D5.bx.cell 0 (v := .pointer (some ⟨rb, 0, none⟩)) rfl
  have HEN := hid (D5.fin HSB.out)
  have hfin : finR rz = rz := by unfold finR; rw [if_pos HE.out]
  rw [hfin] at HEN
  clear D5 HWR hfin
  go_wp2_with fail
  clear x0
  refine HEN.out.mono ?_
  rintro e' W9 ⟨⟨v9, rfl⟩, D6, -⟩
  have x0 := D6.bx.cell 0 (v := .pointer (some ⟨rb, 0, none⟩)) rfl
  have HWR := hid D6.wrong
  clear D6 HEN
  go_wp2_with fail
  clear x0
  refine HWR.out.mono ?_
  rintro e' Wa ⟨rfl, D7, -⟩
  rw [if_neg HE.out]
  have f0 := D7.tb.free 0
  have f1 := D7.tb.free 1
  have f2 := D7.tb.free 2
  have f3 := D7.tb.free 3
  have c0 := D7.tb.cell 0 (v := .int .i64 (T : Int)) rfl
  have c1 := D7.tb.cell 1 (v := .int .i64 (V : Int)) rfl
  have c2 := D7.tb.cell 2 (v := .int .i64 (S : Int)) rfl
  have c3 := D7.tb.cell 3 (v := .slice none 0 0) rfl
  have HD7 := hid D7
  clear D7 HWR
  go_wp2_with fail
  have hF := tset4 HD7.out.tb (.int .i64 0) (.int .i64 0) (.int .i64 0) (.slice none 0 0)
  have q0 := hF.cell 0 (v := .int .i64 0) rfl
  have q1 := hF.cell 1 (v := .int .i64 0) rfl
  have q2 := hF.cell 2 (v := .int .i64 0) rfl
  have q3 := hF.cell 3 (v := .slice none 0 0) rfl
  exact bodyPost_ret (v := .tuple #[.agg #[.int .i64 0, .int .i64 0, .int .i64 0, .slice none 0 0], .int .i64 (plc : Int), .int .i64 (rz.err : Int)]) (by simp [results, Tryz.results13, go_sem, q0, q1, q2, q3, j3]) rfl (by
   rw [HQ.out]
   exact ⟨none, 0, rfl, EvsAt.nil _, tbelow4 HD7.out.be (Nat.le_refl _) _ _ _ _⟩)
end Go.Proofs.YtnblhodhkifeeaaGreatDoor
/-
 Walk: trace.Decode, where events are read.
-/
namespace Go.Proofs.YtnblhodhkifeeaaGreatDoor
set_option linter.unusedVariables false
set_option linter.unusedSimpArgs false
open Go Go.RowKit Go.Shelf
attribute [local go_sem] Oper.semAt_some
set_option maxRecDepth 100000 in
set_option maxHeartbeats 4000000 in
theorem tevents_any (rb many : Nat) (T V S : Int) (w : World) : Calls Tryz.prog 35 #[.pointer (some ⟨rb, 0, none⟩), .agg #[.int .i64 T, .int .i64 V, .int .i64 S, .slice none 0 0], .int .i64 (many : Int)] w fun e w' => e = .returned (.func (.func 69) #[] #[.pointer (some ⟨w.heap.size + 1, 0, none⟩), .pointer (some ⟨w.heap.size + 2, 0, none⟩), .pointer (some ⟨w.heap.size, 0, none⟩)]) ∧
  w' = ((w.alloc (.cells #[.pointer (some ⟨rb, 0, none⟩)] 63)).alloc (.cells #[.int .i64 T, .int .i64 V, .int .i64 S, .slice none 0 0] 25)).alloc (.cells #[.int .i64 (many : Int)] 3) := by
 go_enter Tryz.func35, Tryz.ntmps35
 go_wp2_with fail
 go_ret
 exact ⟨rfl, rfl⟩
theorem tinfoEv : (Tryz.prog.info? 50).map (fun i => (i.zero, i.size, i.bytes)) = some (some (.agg #[.int .u8 0, .int .i64 0, .int .i64 0, .int .i64 0, .int .i64 0, .int .i64 0, .int .u8 0]), 7, 56) := by kernel_rfl
theorem tevL_one (e : Ev) : ∀ u ∈ evL e, u.oneCell' = true := by
 intro u hu
 simp only [evL, List.mem_cons, List.not_mem_nil, or_false] at hu
 rcases hu with rfl | rfl | rfl | rfl | rfl | rfl | rfl <;> rfl
theorem tevL_arr {e : Ev} {j : Nat} {u : Value} (h : (evL e)[j]? = some u) : (evC e)[j]? = some u := by
 rw [← h]; simp [evC, evL]
def DeJ (w : World) (Tb X rb : Nat) (bx : List Nat) (T V S : Int) (l : List Ev) (ks : List Nat) (k : Nat) (W : World) : Prop :=
 ∃ v, Blk W Tb #[.int .i64 T, .int .i64 V, .int .i64 S, v] 25 ∧ W.ownsRow w.heap.size 50 7 v k ((l.take k).flatMap evL) ∧ (∀ g, v.ownBlock = some g → g ∉ Tb :: X :: bx ∧ g ∉ ks) ∧ Blk W X #[.pointer (some ⟨rb, 0, none⟩)] 63 ∧ Below w.heap.size w W ∧ ((k = 0 → v = .slice none 0 0) ∧ (0 < k → ∃ g c, v = .slice (some ⟨g, 0, none⟩) k c)) ∧ (∀ x ∈ Tb :: X :: bx, x < W.heap.size) ∧ w.heap.size ≤ Tb
section
variable {w : World} {Tb X rb : Nat} {bx : List Nat} {T V S : Int} {l : List Ev} {ks : List Nat} {k : Nat} {W W' : World}
theorem DeJ.turn (h : DeJ w Tb X rb bx T V S l ks k W) {rs : List Nat} (hT : Turn (rs ++ ks) W W') (h1 : Tb ∉ rs ++ ks) (h2 : X ∉ rs ++ ks) (h3 : ∀ x ∈ rs, x ∈ bx ∧ w.heap.size ≤ x) (h4 : ∀ x ∈ ks, w.heap.size ≤ x) : DeJ w Tb X rb bx T V S l ks k W' := by
 obtain ⟨v, q1, q2, q3, q4, q5, q6, q7, q8⟩ := h
 refine ⟨v, hT.blk h1 q1, own_turn q2 hT (fun g hg hm => ?_), q3, hT.blk h2 q4, q5.trans (hT.below (fun x hx => ?_) q5.size), q6, fun x hx => Nat.lt_of_lt_of_le (q7 x hx) hT.size, q8⟩
 ·rcases List.mem_append.1 hm with h | h
  ·exact (q3 g hg).1 (List.mem_cons_of_mem _ (List.mem_cons_of_mem _ (h3 g h).1))
  ·exact (q3 g hg).2 h
 ·rcases List.mem_append.1 hx with h | h
  ·exact (h3 x h).2
  ·exact h4 x h
theorem own_putObj {base : Nat} {e : TypeId} {size : Nat} {v : Value} {n : Nat} {xs : List Value} {i : Nat} {o o' : Obj} (h : W.ownsRow base e size v n xs) (ho : W.heap[i]? = some o) (hc : o.isCells = false) : (W.putObj i o').ownsRow base e size v n xs := by
 refine ⟨h.1, ?_⟩
 rcases h.2 with hh | ⟨g, cap, cur, rfl, hb, hgg, rest⟩
 ·exact .inl hh
 ·refine .inr ⟨g, cap, cur, rfl, hb, ?_, rest⟩
  exact blk_putObj (t := e) (cs := cur) hgg ho hc
theorem DeJ.put {i : Nat} {o o' : Obj} (h : DeJ w Tb X rb bx T V S l ks k W) (hi : w.heap.size ≤ i) (ho : W.heap[i]? = some o) (hc : o.isCells = false) : DeJ w Tb X rb bx T V S l ks k (W.putObj i o') := by
 obtain ⟨v, q1, q2, q3, q4, q5, q6, q7, q8⟩ := h
 have hsz : (W.putObj i o').heap.size = W.heap.size := by simp [World.putObj]
 exact ⟨v, blk_putObj q1 ho hc, own_putObj q2 ho hc, q3, blk_putObj q4 ho hc, q5.trans ⟨rfl, rfl, rfl, by rw [hsz]; exact Nat.le_refl _, fun j hj => World.putObj_heap_other (by omega)⟩, q6, fun x hx => by rw [hsz]; exact q7 x hx, q8⟩
set_option maxRecDepth 100000 in
theorem DeJ.app (h : DeJ w Tb X rb bx T V S l ks k W) (hk : k < l.length) (hl : l.length ≤ 1048576) (hks : ∀ x ∈ ks, x < W.heap.size) (hTk : Tb ∉ ks) :
  ∃ v v' w1 g c, W.cell? ⟨Tb, 3, none⟩ = some v ∧ (Builtin.append_ #[23, 23] 23 #[v, .slice (some ⟨W.heap.size, 0, none⟩) 1 1]).run Tryz.prog (W.alloc (.cells (evC (l.getD k evZ)) 50)) = .ok v' w1 ∧ v' = .slice (some ⟨g, 0, none⟩) (k + 1) c ∧
   w1.cell? ⟨Tb, 3, none⟩ = some v ∧ w1.frozen? ⟨Tb, 3, none⟩ = false ∧
   DeJ w Tb X rb bx T V S l ks (k + 1) (w1.setCell ⟨Tb, 3, none⟩ v') ∧ Below w.heap.size W (w1.setCell ⟨Tb, 3, none⟩ v') ∧ (∀ x, x ∈ bx ∨ x ∈ ks → x ≠ Tb → ∀ o : Obj, W.heap[x]? = some o → (w1.setCell ⟨Tb, 3, none⟩ v').heap[x]? = some o) ∧
   (∀ (x : Nat) (o : Obj), W.heap[x]? = some o → o.isCells = false → (w1.setCell ⟨Tb, 3, none⟩ v').heap[x]? = some o) ∧ W.heap.size ≤ (w1.setCell ⟨Tb, 3, none⟩ v').heap.size := by
 obtain ⟨v, q1, q2, q3, q4, q5, q6, q7, q8⟩ := h
 have hb1 := ext_alloc (ext_refl W) (.cells (evC (l.getD k evZ)) 50)
 obtain ⟨i0, hi0, hz0, hz1, hz2⟩ := info_parts tinfoEv
 obtain ⟨v', w1, hrun, hown', hg, -, hv⟩ := run_append_own_at (P := Tryz.prog) (W.alloc (.cells (evC (l.getD k evZ)) 50)) w.heap.size 23 23 50 i0 _ 7 56 Tryz.underlying23 hi0 hz0 hz1 hz2 rfl (by decide) v _ _ (q2.alloc _) ⟨W.heap.size, 0, none⟩ 1 1 (evL (l.getD k evZ)) rfl
  (fun j u hu => by
   have hh : (⟨W.heap.size, 0, none⟩ : Addr).add j = ⟨W.heap.size, j, none⟩ := by unfold Addr.add; split <;> simp_all
   rw [hh]; exact (Blk.new W (evC (l.getD k evZ)) 50).cell j (tevL_arr hu)) (tevL_one _) (by unfold maxLen; omega) (by omega) (by have := q5.size; rw [World.size_alloc]; omega)
 have hnew : ∃ g c, v' = .slice (some ⟨g, 0, none⟩) (k + 1) c := by
  rcases hown'.2 with ⟨_, h0⟩ | ⟨g, c, cur, hh, -⟩
  ·omega
  ·exact ⟨g, c, hh⟩
 obtain ⟨g, c, hv'⟩ := hnew
 have hTb := q7 Tb (by simp)
 have hTv : ∀ x, x ∈ Tb :: X :: bx ∨ x ∈ ks → some x ≠ v.ownBlock := by
  intro x hx hh
  have := q3 x hh.symm
  rcases hx with hx | hx
  ·exact this.1 hx
  ·exact this.2 hx
 have hblk : ∀ {x : Nat} {o : Obj}, (x ∈ Tb :: X :: bx ∨ x ∈ ks) → W.heap[x]? = some o → w1.heap[x]? = some o := by
  intro x o hx ho
  have hlt := (Array.getElem?_eq_some_iff.1 ho).1
  have h1 := hb1.block x hlt
  have h2 := hg.block x (by rw [World.size_alloc]; omega) (hTv x hx)
  rw [h2, h1]; exact ho
 have q1' : Blk w1 Tb #[.int .i64 T, .int .i64 V, .int .i64 S, v] 25 := hblk (Or.inl (by simp)) q1
 have q4' : Blk w1 X #[.pointer (some ⟨rb, 0, none⟩)] 63 := hblk (Or.inl (by simp)) q4
 have hsz : W.heap.size ≤ w1.heap.size := by have := hg.size; rw [World.size_alloc] at this; omega
 have hgn : g ∉ Tb :: X :: bx ∧ g ∉ ks := by
  have hvb : v'.ownBlock = some g := by rw [hv']; rfl
  rcases hv with e | e
  ·exact q3 g (by rw [← e]; exact hvb)
  ·rw [hvb, World.size_alloc] at e
   have e := Option.some.inj e
   exact ⟨fun hm => by have := q7 g hm; omega, fun hm => by have := hks g hm; omega⟩
 have hss : (w1.setCell ⟨Tb, 3, none⟩ v').heap.size = w1.heap.size := by simp [World.setCell]
 have hbel : Below w.heap.size W w1 := by
  refine (hb1.mono q5.size).grown hg (by rw [World.size_alloc]; have := q5.size; omega) (fun x hx => (q2.lt x hx).1)
 have hgT : v'.ownBlock = some g := by rw [hv']; rfl
 have hXT : X ≠ Tb ∨ X = Tb := by omega
 have key : ∀ (x : Nat) (o : Obj), x ≠ Tb → w1.heap[x]? = some o → (w1.setCell ⟨Tb, 3, none⟩ v').heap[x]? = some o := fun x o hne ho => (Below.heap_setCell _ _ _ _ hne).trans ho
 refine ⟨v, v', w1, g, c, q1.cell 3 rfl, hrun, hv', q1'.cell 3 rfl, q1'.free 3, ⟨v', ?_, ?_, ?_, ?_, ?_, ⟨fun h => by omega, fun _ => ⟨g, c, hv'⟩⟩, fun x hx => ?_, q8⟩, hbel.setCell (p := ⟨Tb, 3, none⟩) q8 _, ?_, ?_, by rw [hss]; exact hsz⟩
 ·exact q1'.set 3 v'
 ·have ht : (l.take (k + 1)).flatMap evL = (l.take k).flatMap evL ++ evL (l.getD k evZ) := by
   have hgd : l.getD k evZ = l[k] := by rw [List.getD_eq_getElem?_getD, List.getElem?_eq_getElem hk]; rfl
   rw [List.take_succ_eq_append_getElem hk, List.flatMap_append, hgd, List.flatMap_cons, List.flatMap_nil, List.append_nil]
  rw [ht]
  refine hown'.kept (row := some Tb) ⟨rfl, rfl, rfl, by rw [hss]; exact Nat.le_refl _, fun j hj hne => Below.heap_setCell _ _ _ _ (fun e => hne (by rw [e]))⟩ (Or.inr ?_)
  rw [hgT]
  intro e
  have e := Option.some.inj e
  exact hgn.1 (by rw [e]; simp)
 ·intro g' hg'
  rw [hgT] at hg'
  obtain rfl := Option.some.inj hg'
  exact hgn
 ·rcases hXT with h | h
  ·exact key X _ h q4'
  ·subst h
   have h1 : W.heap[X]? = some (.cells #[.pointer (some ⟨rb, 0, none⟩)] 63) := q4
   have h2 : W.heap[X]? = some (.cells #[.int .i64 T, .int .i64 V, .int .i64 S, v] 25) := q1
   rw [h1] at h2
   have := congrArg (fun o : Option Obj => match o with | some (.cells cs _ _) => cs.size | _ => 0) h2
   simp at this
 ·exact q5.trans (hbel.setCell (p := ⟨Tb, 3, none⟩) q8 _)
 ·rw [hss]; exact Nat.lt_of_lt_of_le (q7 x hx) hsz
 ·intro x hx hne o ho
  exact key x o hne (hblk (by rcases hx with h | h; exact Or.inl (List.mem_cons_of_mem _ (List.mem_cons_of_mem _ h)); exact Or.inr h) ho)
 ·intro x o ho hc
  have hne : x ≠ Tb := by
   intro e
   subst e
   have h2 : W.heap[x]? = some (.cells #[.int .i64 T, .int .i64 V, .int .i64 S, v] 25) := q1
   rw [h2] at ho; cases ho; cases hc
  refine key x o hne ?_
  have hlt := (Array.getElem?_eq_some_iff.1 ho).1
  have h1 := hb1.block x hlt
  have h2 := hg.block x (by rw [World.size_alloc]; omega) (fun hh => by
   rcases q2.2 with ⟨hn, -⟩ | ⟨g2, cap, cur, hv2, -, hg2, -⟩
   ·rw [hn] at hh; simp [Value.ownBlock] at hh
   ·rw [hv2] at hh
    obtain rfl := Option.some.inj (show some x = some g2 from hh)
    have h3 : (W.heap[x]?) = some (.cells cur 50 (0, 0)) := hg2
    rw [h3] at ho; cases ho; cases hc)
  rw [h2, h1]; exact ho
end
theorem evR_len (T V S : Int) : ∀ (n : Nat) (c : Cdr) (s : Sh) (r : Rdr), (evR T V S n c s r).1.length ≤ n
 | 0, _, _, _ => Nat.le_refl _
 | n + 1, c, s, r => by
  rw [evR]
  dsimp only
  split
  ·exact Nat.zero_le _
  ·split
   ·exact Nat.zero_le _
   ·have := evR_len T V S n (readC T V S c r).2.2.2 (by assumption) (readC T V S c r).2.2.1
    dsimp only
    rw [List.length_cons]
    omega
theorem evR_evOk {b : List Nat} (hb : ∀ x ∈ b, x < 256) {T V S : Int} (hsz : 1 ≤ T ∧ T ≤ 6 ∧ 1 ≤ V ∧ V ≤ 32 ∧ 1 ≤ S ∧ S ≤ V) : ∀ (n : Nat) {c : Cdr} {s : Sh} {at_ : Nat}, OkC T c → at_ ≤ b.length → ∀ e ∈ (evR T V S n c s ⟨b, at_, 0⟩).1, EvOk e
 | 0, c, s, at_, _, _, e, he => by rw [evR] at he; cases he
 | n + 1, c, s, at_, hc, ha, e, he => by
  rcases readC_two hsz hc hb ha with ⟨r', h1, h2, hz⟩ | ⟨ev, m, hmm, ht, hok, hoc, hle, hbs, hz⟩
  ·rw [evR_err hz h1] at he; cases he
  ·cases hst : stepS s ev with
   | none => rw [evR_none hz hst] at he; cases he
   | some s' =>
    rw [evR_some hz hst] at he
    rcases List.mem_cons.1 he with rfl | he
    ·exact hok
    ·exact evR_evOk hb hsz n hoc hle e he
theorem flat_at' (tw : List Ev) (k : Nat) (h : k < tw.length) (j : Nat) (v : Value) (hv : (evL tw[k])[j]? = some v) : (tw.flatMap evL)[k * 7 + j]? = some v := by
 induction tw generalizing k with
 | nil => simp at h
 | cons e r ih =>
  have hlen : (evL e).length = 7 := rfl
  rw [List.flatMap_cons]
  cases k with
  | zero =>
   have hj : j < 7 := by
    rcases Nat.lt_or_ge j 7 with h | h
    ·exact h
    ·simp only [List.getElem_cons_zero] at hv
     rw [List.getElem?_eq_none (by rw [hlen]; exact h)] at hv; cases hv
   rw [List.getElem?_append_left (by rw [hlen]; omega)]
   simpa using hv
  | succ k =>
   rw [List.getElem?_append_right (by rw [hlen]; omega), hlen]
   have : (k + 1) * 7 + j - 7 = k * 7 + j := by omega
   rw [this]
   exact ih k (by simpa using h) (by simpa using hv)
theorem evs_own {W : World} {base : Nat} {av : Option Addr} {cv : Nat} {l : List Ev} (h : W.ownsRow base 50 7 (.slice av l.length cv) l.length (l.flatMap evL)) (ho : ∀ e ∈ l, EvOk e) : EvsAt W av l := by
 refine ⟨ho, fun hne => ?_⟩
 have hp : 0 < l.length := List.length_pos_iff.2 hne
 rcases h.2 with ⟨-, h0⟩ | ⟨g, c, cur, hv, -⟩
 ·omega
 ·have hva : av = some ⟨g, 0, none⟩ := by
   have := congrArg (fun v : Value => match v with | .slice a _ _ => a | _ => none) hv
   exact this
  subst hva
  refine ⟨g, 0, rfl, fun k hk j v hv' => ?_⟩
  have := h.cells (g := g) rfl _ _ (flat_at' l k hk j v hv')
  have hh : (⟨g, 0, none⟩ : Addr).add (k * 7 + j) = ⟨g, k * 7 + j, none⟩ := by unfold Addr.add; split <;> simp_all
  rw [hh] at this
  rw [Nat.zero_add]
  exact this
theorem own_set {W : World} {base : Nat} {e : TypeId} {size : Nat} {v : Value} {n : Nat} {xs : List Value} {b o : Nat} {x : Value} (h : W.ownsRow base e size v n xs) (hn : ∀ g, v.ownBlock = some g → g ≠ b) : (W.setCell ⟨b, o, none⟩ x).ownsRow base e size v n xs := by
 refine h.kept (row := some b) ⟨rfl, rfl, rfl, by simp [World.setCell], fun j hj hne => Below.heap_setCell _ _ _ _ (fun e => hne (by rw [e]))⟩ ?_
 cases hv : v.ownBlock with
 | none => exact Or.inl rfl
 | some g => exact Or.inr fun e => hn g hv (Option.some.inj e)
theorem heap_set4 {W : World} {b D : Nat} {o : Obj} (h : W.heap[D]? = some o) (hne : D ≠ b) (v0 v1 v2 v3 : Value) : ((((W.setCell ⟨b, 0, none⟩ v0).setCell ⟨b, 1, none⟩ v1).setCell ⟨b, 2, none⟩ v2).setCell ⟨b, 3, none⟩ v3).heap[D]? = some o :=
 (Below.heap_setCell _ _ _ _ hne).trans ((Below.heap_setCell _ _ _ _ hne).trans ((Below.heap_setCell _ _ _ _ hne).trans ((Below.heap_setCell _ _ _ _ hne).trans h)))
theorem below_putObj {B : Nat} {a W : World} {D : Nat} {o' : Obj} (h : Below B a W) (hD : B ≤ D) : Below B a (W.putObj D o') :=
 h.trans ⟨rfl, rfl, rfl, by simp [World.putObj], fun j hj => World.putObj_heap_other (by omega)⟩
theorem runs_any (T V S : Nat) (sb : ByteArray) (Xe rb many at_ : Nat) (w W : World) (hT : T ≤ 6) (hV : 1 ≤ V ∧ V ≤ 32) (hS : 1 ≤ S ∧ S ≤ V) (hm : many ≤ 1048576) (h0 : T = 0 → many = 0) (hss : sb.size ≤ 16777216) (ha : at_ ≤ sb.size) (hK : KindsAt w) (hTb : TabOk w) (hw : Below w.heap.size w W)
  (hB : Blk W (Xe + 1) #[.int .i64 (T : Int), .int .i64 (V : Int), .int .i64 (S : Int), .slice none 0 0] 25) (hM : Blk W (Xe + 2) #[.int .i64 (many : Int)] 3) (hX : Blk W Xe #[.pointer (some ⟨rb, 0, none⟩)] 63) (hr : RdrAt W rb sb at_ 0) (hrb : w.heap.size ≤ rb) (hrx : rb < Xe) : EvRuns 2 T V S sb (Xe + 1) (Xe + 2) Xe rb many at_ w W := by
 by_cases h : many = 0
 ·subst h
  exact events_zero 2 (by omega) T V S sb (Xe + 1) (Xe + 2) Xe rb at_ w W ⟨by omega, by omega, by omega, by omega, by omega, by omega⟩ (hK.below hw) _ hB hM hr
 ·exact events_some 2 (by omega) T V S sb (Xe + 1) (Xe + 2) Xe rb many at_ w W ⟨by omega, by omega, by omega, by omega, by omega, by omega⟩ ⟨by omega, hm⟩ hss ha hK hTb hw _ hB hM hX hr ⟨by omega, by omega, by omega⟩ hrb
set_option maxRecDepth 100000 in
set_option maxHeartbeats 4000000 in
theorem dec_range (s : ByteArray) (u : List Nat) (p T V S m : Nat) (rh : Rdr) (w : World) (hu : unwrapL (byt s) = (u, p, 0)) (hh : headR u = (T, V, S, m, rh)) (he : rh.err = 0) (hK : KindsAt w) (hTb : TabOk w) : Calls Tryz.prog 13 #[.string s] w (DecP (decL (byt s)) w) := by
 obtain ⟨hs1, hub, hbb, hbs, hul⟩ := frame_body hu
 have hre := headR_e hub
 rw [hh] at hre
 dsimp only at hre
 obtain ⟨y1, y2, y3, y4, y5, y6, y7⟩ := head_fits hub hh he
 obtain ⟨l, rf, hz⟩ : ∃ l rf, evR T V S m newC (newS T V S) rh = (l, rf) := ⟨_, _, rfl⟩
 have hbr := bodyR_go hh he
 rw [hz] at hbr
 dsimp only at hbr
 have hef : RdE u rf := by have := evR_e hub T V S m newC (newS T V S) hre; rw [hz] at this; exact this
 have hlen : l.length ≤ m := by have := evR_len T V S m newC (newS T V S) rh; rw [hz] at this; exact this
 obtain ⟨sb, hsb⟩ : ∃ sb, sb = bstr u := ⟨_, rfl⟩
 rw [← hsb] at hbb hbs
 have hrh : rh = ⟨byt sb, rh.at_, 0⟩ := by
  have := rde_eta hre
  rw [he, ← hbb] at this
  exact this.symm
 have hevs : ∀ e ∈ l, EvOk e := by
  by_cases hT : T = 0
  ·have h0 := y7 hT
   rw [h0] at hlen
   have : l = [] := List.eq_nil_of_length_eq_zero (by omega)
   rw [this]; intro e h; cases h
  ·have := evR_evOk (byt_lt sb) (T := (T : Int)) (V := V) (S := S) ⟨by omega, by omega, by omega, by omega, by omega, by omega⟩ m (c := newC) (s := newS T V S) (at_ := rh.at_) (okC_new (by omega)) (by rw [hbb]; exact hre.at_)
   rw [← hrh, hz] at this
   exact this
 have hbad : (finR rf).err ≠ 0 → decL (byt s) = (Tr.zero, s.size - u.length - 4 + (finR rf).at_, (finR rf).err) := fun h => by rw [decL_bad hu hbr h, byt_len]
 have hgood : (finR rf).err = 0 → decL (byt s) = (⟨T, V, S, l⟩, 0, 0) := fun h => decL_good hu hbr h
 obtain ⟨T', V', S', m', r1, r2, r3, r4, h0, h1, h2, h3, h4⟩ := headR_parts u
 rw [hh] at h0
 obtain ⟨e1, e2⟩ := Prod.mk.inj h0
 obtain ⟨e2, e3⟩ := Prod.mk.inj e2
 obtain ⟨e3, e4⟩ := Prod.mk.inj e3
 obtain ⟨e4, e5⟩ := Prod.mk.inj e4
 subst e1; subst e2; subst e3; subst e4; subst e5
 obtain ⟨W1, hW1⟩ : ∃ W1, W1 = w.alloc (.cells #[.int .i64 0, .int .i64 0, .int .i64 0, .slice none 0 0] 25) := ⟨_, rfl⟩
 have hb1 : Below w.heap.size w W1 := by rw [hW1]; exact ext_alloc (ext_refl _) _
 have ht1 : Blk W1 w.heap.size #[.int .i64 0, .int .i64 0, .int .i64 0, .slice none 0 0] 25 := by rw [hW1]; exact Blk.new _ _ _
 have HU := hid (unwrap_x s W1 (by omega))
 rw [hu] at HU
 dsimp only at HU
 rw [← hsb] at HU
 have hsbs : sb.size ≤ 16777216 := by omega
 obtain ⟨Q, hQ⟩ : ∃ Q, Q = DecP (decL (byt s)) w := ⟨_, rfl⟩
 rw [← hQ]
 have HQ := hid hQ
 have HB1 := hid hb1
 have HT1 := hid ht1
 have HW1 := hid hW1
 have HBB := hid hbb
 have HBS := hid hbs
 have HUL := hid (And.intro hul hs1)
 have HSB := hid hsbs
 have H1 := hid h1
 have H2 := hid h2
 have H3 := hid h3
 have H4 := hid h4
 have HFT := hid (And.intro y1 (And.intro y2 (And.intro y3 (And.intro y4 (And.intro y5 (And.intro y6 y7))))))
 have HE := hid he
 have HZ := hid hz
 have HRH := hid hrh
 have HEV := hid hevs
 have HLEN := hid hlen
 have HEF := hid hef
 have HBAD := hid hbad
 have HGOOD := hid hgood
 have HK := hid hK
 have HTB := hid hTb
 clear hu hh he hre hs1 hub hbb hbs hul h0 h1 h2 h3 h4 hsb hb1 ht1 hW1 hsbs hQ y1 y2 y3 y4 y5 y6 y7 hz hbr hef hlen hrh hevs hbad hgood hK hTb
 refine (callsIn_wide (n := 3)).1 ?_
 refine callsIn_of_wp_marks Tryz.func13 rfl trivial ?_ rfl
 simp only [Tryz.ntmps13, List.size_toArray, List.length_cons, List.length_nil, Nat.reduceAdd, Nat.reduceSub, Array.replicate_succ, Array.replicate_zero, List.push_toArray, List.append_toArray, List.nil_append, List.cons_append]
 gi_wp2_with fail
 refine ⟨trivial, ?_⟩
 rw [← HW1.out]
 refine (callsIn_wide.2 HU.out).mono ?_
 rintro e' W2 ⟨rfl, hb2⟩
 have HT2 := hid (HT1.out.below hb2)
 have HB2 := hid (ext_trans HB1.out hb2)
 clear hb2 HT1 HB1 HW1 HU
 gi_wp2_with fail
 refine ⟨trivial, ?_⟩
 refine (callsIn_wide.2 (newReader_any sb W2 HSB.out)).mono ?_
 rintro e' W3 ⟨rfl, hr3, hb3⟩
 have D0 : DeI w sb w.heap.size W3.heap.size W2.heap.size #[.int .i64 0, .int .i64 0, .int .i64 0, .slice none 0 0] ⟨u, 0, 0⟩ (W3.alloc (.cells #[.pointer (some ⟨W2.heap.size, 0, none⟩)] 63)) := by
  have hbz := ext_alloc (ext_refl W3) (.cells #[.pointer (some ⟨W2.heap.size, 0, none⟩)] 63)
  have hbn := Blk.new W3 #[.pointer (some ⟨W2.heap.size, 0, none⟩)] 63
  exact ⟨(HT2.out.below hb3).below hbz, Blk.below hbz hr3, hbn, ⟨HBB.out.symm, Nat.zero_le _, Or.inl rfl⟩, ext_trans (ext_trans HB2.out hb3) hbz, ⟨Nat.le_refl _, HT2.out.lt, Blk.lt hr3, hbn.lt⟩⟩
 have HD0 := hid D0
 generalize hXg : W3.heap.size = X at HD0 D0
 generalize W2.heap.size = rb at *
 have HS0 := hid (D0.size 0 6 HSB.out (by omega) (by omega))
 rw [H1.out] at HS0
 clear hr3 hb3 D0 HT2 HB2
 gi_wp2_with fail
 refine ⟨trivial, ?_⟩
 refine (callsIn_wide.2 HS0.out).mono ?_
 rintro e' W4 ⟨rfl, D1⟩
 have D1' : DeI w sb w.heap.size X rb #[.int .i64 (T : Int), .int .i64 0, .int .i64 0, .slice none 0 0] r1 (W4.setCell ⟨w.heap.size, 0, none⟩ (.int .i64 (T : Int))) := D1.set 0 _
 have f0 := D1.tb.free 0
 have c0 := D1.tb.cell 0 (v := .int .i64 0) rfl
 have HS1 := hid (D1'.size 1 32 HSB.out (by omega) (by omega))
 rw [H2.out] at HS1
 clear D1 D1' HD0 HS0
 gi_wp2_with fail
 clear f0 c0
 refine ⟨trivial, ?_⟩
 refine (callsIn_wide.2 HS1.out).mono ?_
 rintro e' W5 ⟨rfl, D2⟩
 have D2' : DeI w sb w.heap.size X rb #[.int .i64 (T : Int), .int .i64 (V : Int), .int .i64 0, .slice none 0 0] r2 (W5.setCell ⟨w.heap.size, 1, none⟩ (.int .i64 (V : Int))) := D2.set 1 _
 have f1 := D2.tb.free 1
 have c1 := D2.tb.cell 1 (v := .int .i64 0) rfl
 have d1 := D2'.tb.cell 1 (v := .int .i64 (V : Int)) rfl
 have HS2 := hid (D2'.size 1 V HSB.out (by omega) (by have := HFT.out; omega))
 rw [H3.out] at HS2
 clear D2 D2' HS1
 gi_wp2_with fail
 clear f1 c1 d1
 refine ⟨trivial, ?_⟩
 refine (callsIn_wide.2 HS2.out).mono ?_
 rintro e' W6 ⟨rfl, D3⟩
 have D3' : DeI w sb w.heap.size X rb #[.int .i64 (T : Int), .int .i64 (V : Int), .int .i64 (S : Int), .slice none 0 0] r3 (W6.setCell ⟨w.heap.size, 2, none⟩ (.int .i64 (S : Int))) := D3.set 2 _
 have f2 := D3.tb.free 2
 have c2 := D3.tb.cell 2 (v := .int .i64 0) rfl
 have d0 := D3'.tb.cell 0 (v := .int .i64 (T : Int)) rfl
 have HS3 := hid (D3'.size 0 (if T = 0 then 0 else 1048576) HSB.out (by omega) (by split <;> omega))
 rw [H4.out] at HS3
 clear D3 D3' HS2
 by_cases hT : T = 0
 case' pos =>
  have t1 : ((T : Int) == 0) = true := by rw [hT]; rfl
  have t2 : (T == 0) = true := by rw [hT]; rfl
  rw [if_pos hT] at HS3
 case' neg =>
  have t1 : ((T : Int) == 0) = false := beq_eq_false_iff_ne.2 (by omega)
  have t2 : (T == 0) = false := beq_eq_false_iff_ne.2 hT
  rw [if_neg hT] at HS3
 all_goals
  clear hT
  gi_wp2_with fail
  clear f2 c2 d0 t1 t2
  refine ⟨trivial, ?_⟩
  refine (callsIn_wide.2 HS3.out).mono ?_
  rintro e' W7 ⟨rfl, D4⟩
  have x0 := D4.bx.cell 0 (v := .pointer (some ⟨rb, 0, none⟩)) rfl
  have HWR := hid D4.wrong
  rw [HE.out, if_pos rfl] at HWR
  clear D4 HS3
  gi_wp2_with fail
  clear x0
  refine ⟨trivial, ?_⟩
  refine (callsIn_wide.2 HWR.out).mono ?_
  rintro e' W8 ⟨rfl, D5, -⟩
  have x0 := D5.bx.cell 0 (v := .pointer (some ⟨rb, 0, none⟩)) rfl
  have c0 := D5.tb.cell 0 (v := .int .i64 (T : Int)) rfl
  have c1 := D5.tb.cell 1 (v := .int .i64 (V : Int)) rfl
  have c2 := D5.tb.cell 2 (v := .int .i64 (S : Int)) rfl
  have c3 := D5.tb.cell 3 (v := .slice none 0 0) rfl
  have HD5 := hid D5
  clear D5 HWR
  gi_wp2_with fail
  clear x0 c0 c1 c2 c3
  refine ⟨trivial, ?_⟩
  refine (callsIn_wide.2 (tevents_any rb m T V S W8)).mono ?_
  rintro e' W9 ⟨rfl, hW9⟩
  obtain ⟨Xe, hXe⟩ : ∃ Xe, Xe = W8.heap.size := ⟨_, rfl⟩
  have hsz9 : W9.heap.size = Xe + 3 := by rw [hW9, World.size_alloc, World.size_alloc, World.size_alloc, hXe]
  have hb9 : Below W8.heap.size W8 W9 := by rw [hW9]; exact ext_alloc (ext_alloc (ext_alloc (ext_refl _) _) _) _
  have bX : Blk W9 Xe #[.pointer (some ⟨rb, 0, none⟩)] 63 := by
   rw [hW9, hXe]
   exact ((Blk.new W8 #[.pointer (some ⟨rb, 0, none⟩)] 63).below (ext_alloc (ext_refl _) _)).below (ext_alloc (ext_refl _) _)
  have bB : Blk W9 (Xe + 1) #[.int .i64 (T : Int), .int .i64 (V : Int), .int .i64 (S : Int), .slice none 0 0] 25 := by
   rw [hW9, hXe]
   exact (Blk.new' _ _ _ (by rw [World.size_alloc])).below (ext_alloc (ext_refl _) _)
  have bM : Blk W9 (Xe + 2) #[.int .i64 (m : Int)] 3 := by
   rw [hW9, hXe]
   exact Blk.new' _ _ _ (by rw [World.size_alloc, World.size_alloc])
  have hD9 := HD5.out.below hb9
  have hap := HD5.out.ap
  have hXe2 : X < Xe := by rw [hXe]; exact hap.2.2.2
  have hrd9 : RdrAt W9 rb sb rh.at_ 0 := by have := hD9.rd; rw [HE.out] at this; exact this
  have hat : rh.at_ ≤ sb.size := by have := hD9.re.at_; rwa [byt_len] at this
  have hft := HFT.out
  have HR := hid (runs_any T V S sb Xe rb m rh.at_ w W9 hft.1 ⟨hft.2.1, hft.2.2.1⟩ ⟨hft.2.2.2.1, hft.2.2.2.2.1⟩ hft.2.2.2.2.2.1 hft.2.2.2.2.2.2 HSB.out hat HK.out HTB.out hD9.be bB bM bX hrd9 (by omega) (by omega))
  unfold EvRuns at HR
  rw [← HRH.out, HZ.out] at HR
  dsimp only at HR
  have HD9 := hid hD9
  have HSZ9 := hid hsz9
  have HAP := hid (And.intro hap.1 (And.intro hap.2.1 (And.intro hap.2.2.1 hXe2)))
  rw [← hXe]
  clear hW9 hb9 bX bB bM hD9 hap hrd9 hat hft hXe hsz9 hXe2 HD5
  gi_wp2_with fail
  apply wpIn_range_runsKb (encs := fun k => #[evA (l.getD k evZ)]) (Kp := KeepBC w.heap.size [rb, Xe + 1, Xe + 2, Xe]) (Fin := fun W => RdrAt W rb sb rf.at_ rf.err) (N := l.length) (rs := [rb]) rfl (by omega) (gf := 69) (lb := #[.pointer (some ⟨Xe + 1, 0, none⟩), .pointer (some ⟨Xe + 2, 0, none⟩), .pointer (some ⟨Xe, 0, none⟩)]) rfl trivial (enters_of Tryz.func69 (by kernel_rfl) rfl) HR.out
   (fun x hx => by have := HSZ9.out; have := HAP.out; simp only [List.mem_singleton] at hx; omega) keepBC_t (fun ks => keepBC_b HD9.out.be.size) (fun ks A B hA hb => keepBC_n (Nat.le_trans HD9.out.be.size hA) hb) (fun _ => rfl)
   (fun W i o o' hf hi ho hc => blk_putObj hf ho hc)
   (fun ks k W => DeJ w w.heap.size X rb [rb, Xe + 1, Xe + 2, Xe] T V S l ks k W)
   (fun ks k A B hks hI hT => hI.turn hT (by
    have h1 := HSZ9.out
    have h2 := HAP.out
    intro hm
    rcases List.mem_append.1 hm with h | h
    ·simp only [List.mem_singleton] at h; omega
    ·have := hks _ h; omega) (by
    have h1 := HSZ9.out
    have h2 := HAP.out
    intro hm
    rcases List.mem_append.1 hm with h | h
    ·simp only [List.mem_singleton] at h; omega
    ·have := hks _ h; omega) (fun x hx => by
    have h2 := HAP.out
    simp only [List.mem_singleton] at hx
    subst hx
    exact ⟨by simp, by omega⟩) (fun x hx => by have := hks x hx; have := HD9.out.be.size; omega))
   (fun ks k W i o o' hI hi ho hc => hI.put (Nat.le_trans HD9.out.be.size hi) ho hc)
   (fun ks W hks hb => ⟨.slice none 0 0, HD9.out.tb.below hb, by rw [List.take_zero]; exact World.ownsRow_nil _ _ _ _, (fun g hg => by simp [Value.ownBlock] at hg), HD9.out.bx.below hb, ext_trans HD9.out.be hb, ⟨fun _ => rfl, fun h => absurd h (Nat.lt_irrefl 0)⟩, (fun x hx => by
    have h1 := HSZ9.out
    have h2 := HAP.out
    have h3 := hb.size
    simp only [List.mem_cons, List.not_mem_nil, or_false] at hx
    omega), Nat.le_refl _⟩)
   (fun k => evC (l.getD k evZ)) 50
  case hassign =>
   intro lp k W K eb hsz hK
   dsimp only [evA]
   gi_wp2
   exact hK
  case hbody =>
   rintro lp ks k eb W hks hkb hI hB hk
   have hTk : w.heap.size ∉ ks := fun h => by have := hks _ h; have := HSZ9.out; have := HAP.out; omega
   obtain ⟨v, v', w1, g, c, hcv, hrun, hv', hcv1, hf1, hJ', hbel, hkeep, hnc, hsz⟩ := hI.app hk (Nat.le_trans HLEN.out HFT.out.2.2.2.2.2.1) hkb hTk
   subst hv'
   rcases hek : l.getD k evZ with ⟨kind, th, tx, ea, v6, x6, why⟩
   rw [hek] at hB hrun
   have e0 := hB.cell 0 (v := .int .u8 kind) rfl
   have e1 := hB.cell 1 (v := .int .i64 th) rfl
   have e2 := hB.cell 2 (v := .int .i64 tx) rfl
   have e3 := hB.cell 3 (v := .int .i64 ea) rfl
   have e4 := hB.cell 4 (v := .int .i64 v6) rfl
   have e5 := hB.cell 5 (v := .int .i64 x6) rfl
   have e6 := hB.cell 6 (v := .int .u8 why) rfl
   dsimp only [evC] at hrun
   have HRUN := hid hrun
   have HJ' := hid hJ'
   have HKP := hid (And.intro hbel (And.intro hkeep (And.intro hnc hsz)))
   have HKS := hid hks
   clear hrun hJ' hbel hkeep hnc hsz hks hkb hI hB hk hTk hek
   gi_wp2_with (gi_at_builtin; refine wpListIn_append_run rfl _ _ 23 _ _ _ rfl rfl rfl HRUN.out ?_)
   obtain ⟨k1, k2, k3, k4⟩ := HKP.out
   refine ⟨⟨k4, fun j o _ ho hc => k3 j o ho hc⟩, ⟨k1, fun x hx o ho hc => k2 x ?_ ?_ o ho⟩, HJ'.out⟩
   ·rcases List.mem_append.1 hx with h | h
    ·exact Or.inl h
    ·exact Or.inr h
   ·have h1 := HSZ9.out
    have h2 := HAP.out
    rcases List.mem_append.1 hx with h | h
    ·simp only [List.mem_cons, List.not_mem_nil, or_false] at h; omega
    ·have := HKS.out x h; omega
  case hdone =>
   rintro D ks W hD ⟨v, q1, q2, q3, q4, q5, q6, q7, q8⟩ hF hDef
   obtain ⟨av, cv, hv⟩ : ∃ av cv, v = .slice av l.length cv := by
    rcases Nat.eq_zero_or_pos l.length with h | h
    ·exact ⟨none, 0, by rw [q6.1 h, h]⟩
    ·obtain ⟨g, c, hg⟩ := q6.2 h
     exact ⟨_, c, hg⟩
   subst hv
   rw [List.take_length] at q2
   have HD : Hid (DeI w sb w.heap.size X rb #[.int .i64 (T : Int), .int .i64 (V : Int), .int .i64 (S : Int), .slice av l.length cv] rf W) := hid ⟨q1, hF, q4, by rw [HBB.out]; exact HEF.out, q5, ⟨Nat.le_refl _, HAP.out.2.1, HAP.out.2.2.1, q7 X (by simp)⟩⟩
   have x0 := q4.cell 0 (v := .pointer (some ⟨rb, 0, none⟩)) rfl
   have HEN := hid (HD.out.fin HSB.out)
   have HOW := hid (And.intro q2 (And.intro q3 hDef))
   have HDD := hid hD
   clear q1 q2 q3 q4 q5 q6 q7 q8 hF hDef hD
   gi_wp2_with fail
   clear x0
   refine ⟨trivial, ?_⟩
   refine (callsIn_wide.2 HEN.out).mono ?_
   rintro e' Wa ⟨⟨v9, rfl⟩, D6, hTa⟩
   have x0 := D6.bx.cell 0 (v := .pointer (some ⟨rb, 0, none⟩)) rfl
   have HWR := hid D6.wrong
   have HD6 := hid D6
   have HTa := hid hTa
   clear D6 HEN hTa
   have hDrb : D ≠ rb ∧ D ≠ w.heap.size := by have := HDD.out; have := HSZ9.out; have := HAP.out; omega
   have HDrb := hid hDrb
   clear hDrb
   by_cases hfe : (finR rf).err = 0
   ·rw [if_pos hfe, hfe] at HWR
    have HFE := hid hfe
    clear hfe
    gi_wp2_with fail
    clear x0
    refine ⟨trivial, ?_⟩
    refine (callsIn_wide.2 HWR.out).mono ?_
    rintro e' Wb ⟨rfl, D7, hTb⟩
    have f0 := D7.tb.free 0
    have f1 := D7.tb.free 1
    have f2 := D7.tb.free 2
    have f3 := D7.tb.free 3
    have c0 := D7.tb.cell 0 (v := .int .i64 (T : Int)) rfl
    have c1 := D7.tb.cell 1 (v := .int .i64 (V : Int)) rfl
    have c2 := D7.tb.cell 2 (v := .int .i64 (S : Int)) rfl
    have c3 := D7.tb.cell 3 (v := .slice av l.length cv) rfl
    have HD7 := hid D7
    have HTb := hid hTb
    clear D7 hTb HWR
    gi_wp2_with fail
    have hF := tset4 HD7.out.tb (.int .i64 (T : Int)) (.int .i64 (V : Int)) (.int .i64 (S : Int)) (.slice av l.length cv)
    have hown : (Wb).ownsRow w.heap.size 50 7 (.slice av l.length cv) l.length (l.flatMap evL) := own_turn (own_turn HOW.out.1 HTa.out (fun g hg => by
     have := (HOW.out.2.1 g hg).1
     simp only [List.mem_cons, List.not_mem_nil, or_false] at this ⊢; omega)) HTb.out (fun g hg => by
     have := (HOW.out.2.1 g hg).1
     simp only [List.mem_cons, List.not_mem_nil, or_false] at this ⊢; omega)
    have hne : ∀ g, (Value.slice av l.length cv).ownBlock = some g → g ≠ w.heap.size := fun g hg => by
     have := (HOW.out.2.1 g hg).1
     simp only [List.mem_cons, List.not_mem_nil, or_false] at this; omega
    have hownF := own_set (own_set (own_set (own_set hown hne (o := 0) (x := .int .i64 (T : Int))) hne (o := 1) (x := .int .i64 (V : Int))) hne (o := 2) (x := .int .i64 (S : Int))) hne (o := 3) (x := .slice av l.length cv)
    have hDa : Wa.heap[D]? = some (.deferred (some [])) := turn_heap HTa.out HOW.out.2.2 (by simp only [List.mem_singleton]; exact HDrb.out.1)
    have hDb : Wb.heap[D]? = some (.deferred (some [])) := turn_heap HTb.out hDa (by simp only [List.mem_singleton]; exact HDrb.out.1)
    have hDf := heap_set4 hDb HDrb.out.2 (.int .i64 (T : Int)) (.int .i64 (V : Int)) (.int .i64 (S : Int)) (.slice av l.length cv)
    have hBf := tbelow4 HD7.out.be (Nat.le_refl _) (.int .i64 (T : Int)) (.int .i64 (V : Int)) (.int .i64 (S : Int)) (.slice av l.length cv)
    obtain ⟨Wf, hWf⟩ : ∃ Wf, Wf = (((Wb.setCell ⟨w.heap.size, 0, none⟩ (.int .i64 (T : Int))).setCell ⟨w.heap.size, 1, none⟩ (.int .i64 (V : Int))).setCell ⟨w.heap.size, 2, none⟩ (.int .i64 (S : Int))).setCell ⟨w.heap.size, 3, none⟩ (.slice av l.length cv) := ⟨_, rfl⟩
    rw [← hWf] at hF hownF hDf hBf ⊢
    refine ⟨by simp, .inl ⟨_, _, rfl, run_takeDeferred hDf, ?_⟩⟩
    have hF' := blk_putObj (o' := .deferred none) hF hDf rfl
    have q0 := hF'.cell 0 (v := .int .i64 (T : Int)) rfl
    have q1 := hF'.cell 1 (v := .int .i64 (V : Int)) rfl
    have q2 := hF'.cell 2 (v := .int .i64 (S : Int)) rfl
    have q3 := hF'.cell 3 (v := .slice av l.length cv) rfl
    refine ⟨.tuple #[.agg #[.int .i64 (T : Int), .int .i64 (V : Int), .int .i64 (S : Int), .slice av l.length cv], .int .i64 0, .int .i64 0], by simp [results, Tryz.results13, go_sem, q0, q1, q2, q3], ?_⟩
    rw [HQ.out, HGOOD.out HFE.out]
    exact ⟨av, cv, rfl, evs_own (own_putObj hownF hDf rfl) HEV.out, below_putObj hBf (by have := HDD.out; have := HSZ9.out; have := HAP.out; omega)⟩
   ·rw [if_neg hfe] at HWR
    have HFE := hid hfe
    have hfa : (finR rf).at_ ≤ u.length := (finR_e HEF.out).at_
    obtain ⟨j1, j2, j3⟩ := place_is' (n := s.size) (m := u.length) (a := (finR rf).at_) (by have := HUL.out; omega) HUL.out.2 hfa
    obtain ⟨plc, hplc⟩ : ∃ plc, plc = s.size - u.length - 4 + (finR rf).at_ := ⟨_, rfl⟩
    rw [← hplc] at j3
    rw [← HBS.out] at j1 j2 j3
    have k3 : (((finR rf).err : Int) != 0) = true := bne_iff_ne.2 (by omega)
    have k4 : ((finR rf).err != 0) = true := bne_iff_ne.2 hfe
    have HPL := hid hplc
    clear hfe hfa hplc
    generalize (finR rf).at_ = fa at *
    gi_wp2_with fail
    clear x0
    refine ⟨trivial, ?_⟩
    refine (callsIn_wide.2 HWR.out).mono ?_
    rintro e' Wb ⟨rfl, D7, hTb⟩
    have f0 := D7.tb.free 0
    have f1 := D7.tb.free 1
    have f2 := D7.tb.free 2
    have f3 := D7.tb.free 3
    have c0 := D7.tb.cell 0 (v := .int .i64 (T : Int)) rfl
    have c1 := D7.tb.cell 1 (v := .int .i64 (V : Int)) rfl
    have c2 := D7.tb.cell 2 (v := .int .i64 (S : Int)) rfl
    have c3 := D7.tb.cell 3 (v := .slice av l.length cv) rfl
    have HD7 := hid D7
    have HTb := hid hTb
    clear D7 hTb HWR
    gi_wp2_with fail
    have hF := tset4 HD7.out.tb (.int .i64 0) (.int .i64 0) (.int .i64 0) (.slice none 0 0)
    have hDa : Wa.heap[D]? = some (.deferred (some [])) := turn_heap HTa.out HOW.out.2.2 (by simp only [List.mem_singleton]; exact HDrb.out.1)
    have hDb : Wb.heap[D]? = some (.deferred (some [])) := turn_heap HTb.out hDa (by simp only [List.mem_singleton]; exact HDrb.out.1)
    have hDf := heap_set4 hDb HDrb.out.2 (.int .i64 0) (.int .i64 0) (.int .i64 0) (.slice none 0 0)
    have hBf := tbelow4 HD7.out.be (Nat.le_refl _) (.int .i64 0) (.int .i64 0) (.int .i64 0) (.slice none 0 0)
    obtain ⟨Wf, hWf⟩ : ∃ Wf, Wf = (((Wb.setCell ⟨w.heap.size, 0, none⟩ (.int .i64 0)).setCell ⟨w.heap.size, 1, none⟩ (.int .i64 0)).setCell ⟨w.heap.size, 2, none⟩ (.int .i64 0)).setCell ⟨w.heap.size, 3, none⟩ (.slice none 0 0) := ⟨_, rfl⟩
    rw [← hWf] at hF hDf hBf ⊢
    refine ⟨by simp, .inl ⟨_, _, rfl, run_takeDeferred hDf, ?_⟩⟩
    have hF' := blk_putObj (o' := .deferred none) hF hDf rfl
    have q0 := hF'.cell 0 (v := .int .i64 0) rfl
    have q1 := hF'.cell 1 (v := .int .i64 0) rfl
    have q2 := hF'.cell 2 (v := .int .i64 0) rfl
    have q3 := hF'.cell 3 (v := .slice none 0 0) rfl
    refine ⟨.tuple #[.agg #[.int .i64 0, .int .i64 0, .int .i64 0, .slice none 0 0], .int .i64 (plc : Int), .int .i64 ((finR rf).err : Int)], by simp [results, Tryz.results13, go_sem, q0, q1, q2, q3, j3], ?_⟩
    rw [HQ.out, HBAD.out HFE.out, ← HPL.out]
    exact ⟨none, 0, rfl, EvsAt.nil _, below_putObj hBf (by have := HDD.out; have := HSZ9.out; have := HAP.out; omega)⟩
theorem dec_any (s : ByteArray) (w : World) (hs : s.size ≤ 9223372036854775807) (hK : KindsAt w) (hTb : TabOk w) : Calls Tryz.prog 13 #[.string s] w (DecP (decL (byt s)) w) := by
 obtain ⟨u, p, c, hu⟩ : ∃ u p c, unwrapL (byt s) = (u, p, c) := ⟨_, _, _, rfl⟩
 by_cases hc : c = 0
 ·subst hc
  obtain ⟨T, V, S, m, r1, r2, r3, rh, hh, -⟩ := headR_parts u
  by_cases he : rh.err = 0
  ·exact dec_range s u p T V S m rh w hu hh he hK hTb
  ·exact dec_head s u p T V S m rh w hu hh he
 ·exact dec_frame s w hs (by rw [hu]; exact hc)
end Go.Proofs.YtnblhodhkifeeaaGreatDoor
