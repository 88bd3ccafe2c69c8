/-
  Walks: code.each: the statements of a transaction, one behind the other, each ahead of what is within it.
-/
import Derived.RangeFuncNested
import Derived.RangeFuncBound
import Derived.RangeFuncCalls
import Derived.RangeFuncLeaves
import Derived.RangeFuncBox
import Derived.TacticsInMore
import Derived.LoopNIn
import Derived.LoopIn
import Derived.Test.YtaklfjjkeebheaaRgF
import Derived.Test.YtaklfjjkeebheaaPbC
namespace Go.Proofs.Ytaklfjjkeebheaa
set_option linter.unusedVariables false
set_option linter.unusedSimpArgs false
set_option linter.unusedVariables false
open Go Go.RowKit
attribute [local go_sem] Oper.semAt_some
mutual
def flatS : St → List St
  | .mk k t a b body els => St.mk k t a b body els :: (flatT body ++ flatT els)
def flatT : List St → List St
  | [] => []
  | x :: xs => flatS x ++ flatT xs
end
theorem flatS_is (s : St) : flatS s = s :: (flatT s.body ++ flatT s.els) := by cases s; rfl
mutual
theorem flatS_len : ∀ s : St, (flatS s).length = sizeS s
  | .mk k t a b body els => by
    simp only [flatS, sizeS, List.length_cons, List.length_append, flatT_len body, flatT_len els]; omega
theorem flatT_len : ∀ l : List St, (flatT l).length = sizeT l
  | [] => rfl
  | x :: xs => by simp only [flatT, sizeT, List.length_append, flatS_len x, flatT_len xs]
end
theorem flatT_take : ∀ (l : List St) (k : Nat) (h : k < l.length), flatT (l.take (k + 1)) = flatT (l.take k) ++ flatS l[k]
  | x :: xs, 0, h => by simp [flatT]
  | x :: xs, k + 1, h => by
    simp only [List.take_succ_cons, flatT, List.getElem_cons_succ, List.append_assoc]
    rw [flatT_take xs k (by simpa using h)]
theorem flatT_take_le (l : List St) (k : Nat) (h : k < l.length) : (flatT (l.take k)).length + sizeS l[k] ≤ sizeT l := by
  have e : ∀ (a b : List St), sizeT (a ++ b) = sizeT a + sizeT b := by
    intro a b
    induction a with
    | nil => simp [sizeT]
    | cons x xs ih => simp only [List.cons_append, sizeT, ih]; omega
  have h1 := e (l.take (k + 1)) (l.drop (k + 1))
  rw [List.take_append_drop, ← flatT_len (l.take (k + 1)), flatT_take l k h, List.length_append, flatS_len] at h1
  omega
/-- A statement, as it is handed. -/
def RdV (w0 : World) (s : St) (v : Value) : Prop := ∃ k t a0 a1 a2 b0 b1 b2 bo el, v = .agg #[k, t, a0, a1, a2, b0, b1, b2, bo, el] ∧ RdSt w0 s k t a0 a1 a2 b0 b1 b2 bo el
/-- Small enough to be counted. -/
def okE (s : St) : Prop := sizeE s.a ≤ 3000 ∧ sizeE s.b ≤ 3000
def Item (w0 : World) := { p : St × Value // RdV w0 p.1 p.2 ∧ okE p.1 }
def Item.st {w0 : World} (x : Item w0) : St := x.1.1
def Item.enc {w0 : World} (x : Item w0) : Array Value := #[x.1.2]
/-- What a round keeps: what lay below, the walks, and every statement's box. -/
def KeepE (n₀ : Nat) (W W' : World) : Prop := KeepBW n₀ W W' ∧ ∀ b cs, Blk W b cs 91 → Blk W' b cs 91
theorem keepE_t {n₀ : Nat} {A B C : World} (h : KeepE n₀ A B) (k : KeepE n₀ B C) : KeepE n₀ A C := ⟨keepBW_t h.1 k.1, fun b cs x => k.2 b cs (h.2 b cs x)⟩
theorem keepE_b {n₀ : Nat} {w : World} (hn : n₀ ≤ w.heap.size) (W : World) (l : Nat) (o o' : Obj) (hl : w.heap.size ≤ l) (h : W.heap[l]? = some o) (hc : o.isCells = false) (hw : o.isWalk = false) : KeepE n₀ W (W.putObj l o') :=
  ⟨keepBW_b hn W l o o' hl h hc hw, fun b cs x => by
    unfold Blk at x ⊢
    rw [World.putObj_heap_other (fun e => by subst e; rw [h] at x; cases x; cases hc)]
    exact x⟩
theorem keepE_still {n₀ : Nat} {W W' : World} (hn : n₀ ≤ W.heap.size) (hb : Below W.heap.size W W') (hk : KeepsWalks W W') : KeepE n₀ W W' := ⟨⟨hb.mono hn, hk⟩, fun b cs x => x.below hb⟩
theorem AbidesFrom.still {β : Type} {B : Nat} {J : β → World → Prop} (h : AbidesFrom B J) {s : β} {W W' : World} (hJ : J s W) (hb : Below W.heap.size W W') : J s W' := h s W W' Option.none hJ ⟨hb.os, hb.tape, hb.output, hb.size, fun k hk _ => hb.block k hk⟩ (fun r e => by cases e)
theorem AbidesFrom.up {β : Type} {B B' : Nat} {J : β → World → Prop} (h : AbidesFrom B J) (hB : B ≤ B') : AbidesFrom B' J := fun s W W' row hJ hg hr => h s W W' row hJ hg (fun r e => ⟨Nat.le_trans hB (hr r e).1, (hr r e).2⟩)
theorem flatT_mem : ∀ (l : List St) (k : Nat) (h : k < l.length) (s : St), s ∈ flatT (l.take k) ∨ s ∈ flatS l[k] → s ∈ flatT l
  | x :: xs, 0, h, s, hs => by
    rcases hs with hs | hs
    · simp [flatT] at hs
    · simp only [flatT, List.mem_append]; exact .inl hs
  | x :: xs, k + 1, h, s, hs => by
    simp only [List.take_succ_cons, flatT, List.getElem_cons_succ, List.mem_append] at hs ⊢
    rcases hs with (hs | hs) | hs
    · exact .inl hs
    · exact .inr (flatT_mem xs k (by simpa using h) s (.inl hs))
    · exact .inr (flatT_mem xs k (by simpa using h) s (.inr hs))
def EachPost {w0 : World} (J Jx : List (Item w0) → World → Prop) (pre : List (Item w0)) (l : List St) (W : World) (e : Ending) (W' : World) : Prop :=
  (e = .returned (.bool true) ∧ ∃ xs : List (Item w0), xs.map Item.st = flatT l ∧ J (pre ++ xs) W' ∧ KeepE w0.heap.size W W') ∨ (e = .returned (.bool false) ∧ ∃ xs : List (Item w0), (∀ s ∈ xs.map Item.st, s ∈ flatT l) ∧ Jx (pre ++ xs) W')
set_option maxRecDepth 100000 in
set_option maxHeartbeats 4000000 in
theorem each_in (s : Nat) : ∀ (n : Nat) (lp N : Nat) (w0 : World) (J Jx : List (Item w0) → World → Prop) (l : List St) (v : Value) (pre : List (Item w0)) (W : World), sizeT l < s → RdTx w0 l v → Below w0.heap.size w0 W → pre.length + sizeT l ≤ N → AbidesFrom W.heap.size J →
    (∀ n' p x W1, J p W1 → p.length < N → YieldAt Fence.wide n' Try.prog lp (Item.enc x) W1 fun e W' => (e = .returned (.bool true) ∧ J (p ++ [x]) W' ∧ KeepE w0.heap.size W1 W') ∨ (e = .returned (.bool false) ∧ Jx (p ++ [x]) W')) →
    J pre W → (∀ s ∈ flatT l, okE s) → CallsIn Fence.wide n Try.prog 66 #[v, .func (.yield lp) #[] #[]] W (EachPost J Jx pre l W) := by
  induction s with
  | zero => intro n lp N w0 J Jx l v pre W h; omega
  | succ s ih =>
  intro n lp N w0 J Jx l v pre W hs hr hb hN hab hY h0 hok
  obtain ⟨a, cap, rfl, hlen, hx⟩ := hr
  have IH := hid (ih); clear ih
  have HS := hid hs; clear hs
  have HX := hid hx; clear hx
  have HB0 := hid hb; clear hb
  have HN := hid hN; clear hN
  have HAB := hid hab; clear hab
  have HY := hid hY; clear hY
  have HJ0 := hid h0; clear h0
  have HOK := hid hok; clear hok
  refine callsIn_of_wp Try.func66 rfl trivial ?_ rfl
  simp only [Try.ntmps66, List.size_toArray, List.length_cons, List.length_nil, Nat.reduceAdd, Nat.reduceSub, Array.replicate_succ, Array.replicate_zero, List.push_toArray, List.append_toArray, List.nil_append, List.cons_append]
  gi_wp2
  gi_loopw [9] (fun i wr => ∃ (k : Nat) (xs : List (Item w0)), k ≤ l.length ∧ i = .int .i64 (k : Int) ∧ Hid (xs.map Item.st = flatT (l.take k)) ∧ Hid (J (pre ++ xs) wr) ∧ Hid (Below w0.heap.size w0 wr) ∧ Hid (KeepE w0.heap.size W wr) ∧ Hid (W.heap.size ≤ wr.heap.size)) (fun i _ => l.length - (intOf i).toNat)
  case atStart => exact ⟨0, [], Nat.zero_le _, rfl, hid (by simp [flatT]), hid (by simpa using HJ0.out), HB0, hid (keepE_still HB0.out.size (Below.refl _ _) (KeepsWalks.refl _)), hid (Nat.le_refl _)⟩
  case round =>
    obtain ⟨k, xs, hk, rfl, HXS, HJ, HB, HKE, HSZ⟩ := hrel
    by_cases hlt : k < l.length
    · obtain ⟨q, off, rfl, hrd⟩ := HX.out (by intro h; subst h; simp at hlt)
      obtain ⟨kk, tt, a0, a1, a2, b0, b1, b2, bo, el, e0, e1, e2, e3, e4, e5, e6, e7, e8, e9, hst⟩ := RdSts.get l hrd k hlt
      have hv : RdV w0 l[k] (.agg #[kk, tt, a0, a1, a2, b0, b1, b2, bo, el]) := ⟨kk, tt, a0, a1, a2, b0, b1, b2, bo, el, rfl, hst⟩
      obtain ⟨rfl, rfl, ga, gb, g3, g4⟩ := hst.shape
      obtain ⟨pa, ca, rfl, rfl, rfl⟩ := ga.shape
      obtain ⟨pb, cb, rfl, rfl, rfl⟩ := gb.shape
      have g3' := g3
      have g4' := g4
      obtain ⟨pp, c1, rfl, -, -⟩ := g3
      obtain ⟨pq, c2, rfl, -, -⟩ := g4
      have HT := hid (flatT_take l k hlt)
      have HMK : Hid (∀ s ∈ flatT (l.take k), s ∈ flatT l) := hid fun s hs => flatT_mem l k hlt s (.inl hs)
      have HMS : Hid (∀ s ∈ flatS (l[k]'hlt), s ∈ flatT l) := hid fun s hs => flatT_mem l k hlt s (.inr hs)
      have HLE := hid (flatT_take_le l k hlt)
      have hs1 := sizeS_body l[k]
      have hs2 := sizeS_els l[k]
      have hle := sizeT_get l k hlt
      have HSI := hid (flatS_is l[k])
      have HSL := hid (flatS_len l[k])
      have HLT := hid hlt
      obtain ⟨x, hx⟩ : ∃ x : Item w0, x.1 = (l[k]'hlt, .agg #[.int .u8 (l[k]'hlt).kind, .int .i64 (l[k]'hlt).to, .int .u8 (l[k]'hlt).a.op, .int .i64 (l[k]'hlt).a.n, .slice pa (l[k]'hlt).a.args.length ca, .int .u8 (l[k]'hlt).b.op, .int .i64 (l[k]'hlt).b.n, .slice pb (l[k]'hlt).b.args.length cb, .slice pp (l[k]'hlt).body.length c1, .slice pq (l[k]'hlt).els.length c2]) := ⟨⟨_, hv, HOK.out _ (flatT_mem l k hlt _ (.inr (by rw [flatS_is]; exact List.mem_cons_self)))⟩, rfl⟩
      have HXST : Hid (x.st = l[k]'hlt) := hid (by unfold Item.st; rw [hx])
      have hxe : x.enc = #[.agg #[.int .u8 (l[k]'hlt).kind, .int .i64 (l[k]'hlt).to, .int .u8 (l[k]'hlt).a.op, .int .i64 (l[k]'hlt).a.n, .slice pa (l[k]'hlt).a.args.length ca, .int .u8 (l[k]'hlt).b.op, .int .i64 (l[k]'hlt).b.n, .slice pb (l[k]'hlt).b.args.length cb, .slice pp (l[k]'hlt).body.length c1, .slice pq (l[k]'hlt).els.length c2]] := by unfold Item.enc; rw [hx]
      have d0 := later HB.out e0
      have d1 := later HB.out e1
      have d2 := later HB.out e2
      have d3 := later HB.out e3
      have d4 := later HB.out e4
      have d5 := later HB.out e5
      have d6 := later HB.out e6
      have d7 := later HB.out e7
      have d8 := later HB.out e8
      have d9 := later HB.out e9
      have hbl := lt_of_cell d0
      have j1 : decide ((k : Int) < (l.length : Int)) = true := by rw [decide_eq_true_iff]; omega
      have j1n : decide (k < l.length) = true := decide_eq_true hlt
      have j2 : (0 : Int) ≤ (k : Int) := by omega
      have j3 : IntKind.i64.wrap ((k : Int) + 1) = (k : Int) + 1 := IntWalk.i64_in _ (by omega)
      have HB1 := hid (show sizeT l[k].body < s by have := HS.out; omega)
      have HB2 := hid (show sizeT l[k].els < s by have := HS.out; omega)
      clear e0 e1 e2 e3 e4 e5 e6 e7 e8 e9 hst hv ga gb hs1 hs2 hle hrd hx
      generalize l[k]'hlt = y at *
      obtain ⟨W1, hW1⟩ : ∃ W1, W1 = wr.alloc (.cells #[.int .u8 y.kind, .int .i64 y.to, .int .u8 y.a.op, .int .i64 y.a.n, .slice pa y.a.args.length ca, .int .u8 y.b.op, .int .i64 y.b.n, .slice pb y.b.args.length cb, .slice pp y.body.length c1, .slice pq y.els.length c2] 91) := ⟨_, rfl⟩
      have hA1 : Below wr.heap.size wr W1 := by rw [hW1]; exact ext_alloc (ext_refl _) _
      have hKA : KeepE w0.heap.size wr W1 := keepE_still HB.out.size hA1 (by rw [hW1]; exact KeepsWalks.alloc _ _)
      have hJ1 : J (pre ++ xs) W1 := AbidesFrom.still HAB.out HJ.out hA1
      have hBox : Blk W1 wr.heap.size #[.int .u8 y.kind, .int .i64 y.to, .int .u8 y.a.op, .int .i64 y.a.n, .slice pa y.a.args.length ca, .int .u8 y.b.op, .int .i64 y.b.n, .slice pb y.b.args.length cb, .slice pp y.body.length c1, .slice pq y.els.length c2] 91 := by rw [hW1]; exact Blk.new _ _ _
      have f0 := hBox.cell 0 rfl
      have f1 := hBox.cell 1 rfl
      have f2 := hBox.cell 2 rfl
      have f3 := hBox.cell 3 rfl
      have f4 := hBox.cell 4 rfl
      have f5 := hBox.cell 5 rfl
      have f6 := hBox.cell 6 rfl
      have f7 := hBox.cell 7 rfl
      have f8 := hBox.cell 8 rfl
      have f9 := hBox.cell 9 rfl
      have hxl : xs.length = (flatT (l.take k)).length := by rw [← HXS.out, List.length_map]
      have hsy : 1 + sizeT y.body + sizeT y.els = sizeS y := by cases y; rfl
      have hpl : (pre ++ xs).length < N := by
        have h1 := HLE.out
        have h2 := HN.out
        rw [List.length_append]; omega
      obtain ⟨fn, tmps, assign, body, hy, hR⟩ := HY.out (n - 1) (pre ++ xs) x W1 hJ1 hpl
      rw [hxe] at hy
      have HBX := hid hBox
      have HKA := hid hKA
      have HA1 := hid hA1
      have HW1 := hid hW1
      have HHY := hid hy
      have HR := hid hR
      have HPL := hid (show (pre ++ xs).length + 1 + sizeT y.body + sizeT y.els ≤ N by
        have h1 := HLE.out
        have h2 := HN.out
        rw [List.length_append]; omega)
      clear hBox hKA hA1 hJ1 hy hxe hW1 hR hxl hsy hpl
      gi_wp2
      rw [← HW1.out]
      rw [HHY.out]
      gi_wp2
      refine ⟨(fun h => by cases h), ?_⟩
      refine HR.out.mono ?_
      rintro e' W2 (⟨rfl, hJ2, hk2⟩ | ⟨rfl, hJx⟩)
      · have HBX2 := hid (hk2.2 _ _ HBX.out)
        have y8 := HBX2.out.cell 8 rfl
        have y9 := HBX2.out.cell 9 rfl
        have HJ2 := hid hJ2
        have HB2' := hid ((ext_trans HB.out HA1.out).trans hk2.1.1)
        have HK2 := hid (keepE_t (keepE_t HKE.out HKA.out) hk2)
        have HS2 := hid (Nat.le_trans HSZ.out (Nat.le_trans HA1.out.size hk2.1.1.size))
        clear hJ2 hk2
        gi_wp2
        refine ⟨trivial, (fun h => by cases h), ?_⟩
        refine (IH.out _ lp N w0 J Jx y.body _ (pre ++ xs ++ [x]) W2 HB1.out g3' HB2'.out (by have := HPL.out; simp only [List.length_append, List.length_singleton] at this ⊢; omega) (AbidesFrom.up HAB.out HS2.out) HY.out HJ2.out (fun s hs => HOK.out s (HMS.out s (by rw [HSI.out]; exact List.mem_cons_of_mem _ (List.mem_append_left _ hs))))).mono ?_
        rintro e' W3 (⟨rfl, ys, hys, hJ3, hk3⟩ | ⟨rfl, ys, hym, hJx⟩)
        · have HBX3 := hid (hk3.2 _ _ HBX2.out)
          have z9 := HBX3.out.cell 9 rfl
          have HJ3 := hid hJ3
          have HYS := hid hys
          have HB3' := hid (HB2'.out.trans hk3.1.1)
          have HK3 := hid (keepE_t HK2.out hk3)
          have HS3 := hid (Nat.le_trans HS2.out hk3.1.1.size)
          have HYL : Hid (ys.length = sizeT y.body) := hid (by rw [← flatT_len, ← hys, List.length_map])
          clear hJ3 hk3 hys
          gi_wp2
          refine ⟨trivial, (fun h => by cases h), ?_⟩
          refine (IH.out _ lp N w0 J Jx y.els _ (pre ++ xs ++ [x] ++ ys) W3 HB2.out g4' HB3'.out (by have := HPL.out; have := HYL.out; simp only [List.length_append, List.length_singleton] at *; omega) (AbidesFrom.up HAB.out HS3.out) HY.out HJ3.out (fun s hs => HOK.out s (HMS.out s (by rw [HSI.out]; exact List.mem_cons_of_mem _ (List.mem_append_right _ hs))))).mono ?_
          rintro e' W4 (⟨rfl, zs, hzs, hJ4, hk4⟩ | ⟨rfl, zs, hym, hJx⟩)
          · have HJ4 := hid hJ4
            have HZS := hid hzs
            have HB4' := hid (HB3'.out.trans hk4.1.1)
            have HK4 := hid (keepE_t HK3.out hk4)
            have HS4 := hid (Nat.le_trans HS3.out hk4.1.1.size)
            clear hJ4 hk4 hzs
            gi_wp2
            go_roundw
            case rel => exact ⟨k + 1, xs ++ [x] ++ ys ++ zs, HLT.out, by simp, hid (by rw [HT.out, HSI.out]; simp only [List.map_append, List.map_cons, List.map_nil, HXS.out, HYS.out, HZS.out, HXST.out, List.append_assoc, List.cons_append, List.nil_append]), hid (by simpa [List.append_assoc] using HJ4.out), HB4', HK4, HS4⟩
            case measure => have := HLT.out; simp [intOf]; omega
          · have HE : Hid (EachPost J Jx pre l W (.returned (.bool false)) W4) := hid (.inr ⟨rfl, xs ++ [x] ++ ys ++ zs, (fun s hs => by
              simp only [List.map_append, List.map_cons, List.map_nil, List.mem_append, List.mem_singleton, HXS.out, HXST.out, HYS.out] at hs
              rcases hs with ((hs | hs) | hs) | hs
              · exact HMK.out s hs
              · exact HMS.out s (by rw [HSI.out, hs]; exact List.mem_cons_self)
              · exact HMS.out s (by rw [HSI.out]; exact List.mem_cons_of_mem _ (List.mem_append_left _ hs))
              · exact HMS.out s (by rw [HSI.out]; exact List.mem_cons_of_mem _ (List.mem_append_right _ (hym s hs)))), by simpa [List.append_assoc] using hJx⟩)
            clear hJx hym
            gi_wp2
            go_ret
            exact HE.out
        · have HE : Hid (EachPost J Jx pre l W (.returned (.bool false)) W3) := hid (.inr ⟨rfl, xs ++ [x] ++ ys, (fun s hs => by
              simp only [List.map_append, List.map_cons, List.map_nil, List.mem_append, List.mem_singleton, HXS.out, HXST.out] at hs
              rcases hs with (hs | hs) | hs
              · exact HMK.out s hs
              · exact HMS.out s (by rw [HSI.out, hs]; exact List.mem_cons_self)
              · exact HMS.out s (by rw [HSI.out]; exact List.mem_cons_of_mem _ (List.mem_append_left _ (hym s hs)))), by simpa [List.append_assoc] using hJx⟩)
          clear hJx hym
          gi_wp2
          (repeat (refine ⟨trivial, ?_⟩; gi_wp2))
          go_ret
          exact HE.out
      · have HE : Hid (EachPost J Jx pre l W (.returned (.bool false)) W2) := hid (.inr ⟨rfl, xs ++ [x], (fun s hs => by
              simp only [List.map_append, List.map_cons, List.map_nil, List.mem_append, List.mem_singleton, HXS.out, HXST.out] at hs
              rcases hs with hs | hs
              · exact HMK.out s hs
              · exact HMS.out s (by rw [HSI.out, hs]; exact List.mem_cons_self)), by simpa [List.append_assoc] using hJx⟩)
        clear hJx
        gi_wp2
        (repeat (refine ⟨trivial, ?_⟩; gi_wp2))
        go_ret
        exact HE.out
    · obtain rfl : k = l.length := by omega
      have j1 : decide ((l.length : Int) < (l.length : Int)) = false := by rw [decide_eq_false_iff_not]; omega
      have hfin : EachPost J Jx pre l W (.returned (.bool true)) wr := .inl ⟨rfl, xs, by rw [HXS.out, List.take_length], HJ.out, HKE.out⟩
      gi_wp2
      go_ret
      exact hfin
end Go.Proofs.Ytaklfjjkeebheaa
