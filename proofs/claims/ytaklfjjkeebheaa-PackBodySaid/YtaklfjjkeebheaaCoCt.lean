/-
  Walks: code.Count.
-/
import Derived.RangeFuncCalls
import Derived.Shelf.Abstract
import Derived.Test.YtaklfjjkeebheaaCoAll
import Derived.Test.YtaklfjjkeebheaaRegR
namespace Go.Proofs.Ytaklfjjkeebheaa
set_option linter.unusedVariables false
set_option linter.unusedSimpArgs false
set_option linter.unusedVariables false
open Go Go.RowKit
attribute [local go_sem] Oper.semAt_some
theorem Blk.apart {w : World} {b b' : Nat} {cs cs' : Array Value} {t t' : TypeId} (h : Blk w b cs t) (h' : Blk w b' cs' t') (hne : t ≠ t') : b ≠ b' := by
  rintro rfl
  unfold Blk at h h'
  rw [h] at h'
  cases h'
  exact hne rfl
theorem keepE_set {n₀ : Nat} {W : World} {b : Nat} {cs : Array Value} {t : TypeId} (h : Blk W b cs t) (hne : 91 ≠ t) (hn : n₀ ≤ b) (o : Nat) (v : Value) : KeepE n₀ W (W.setCell ⟨b, o, none⟩ v) :=
  ⟨⟨(Below.refl _ _).setCell (p := ⟨b, o, none⟩) hn v, KeepsWalks.setCell _ _ _⟩, fun b' cs' x => x.set_other ⟨b, o, none⟩ v (x.apart h hne)⟩
theorem keepsOthers_below {W W' : World} (hb : Below W.heap.size W W') : KeepsOthers W W' := ⟨hb.size, fun k o hk _ => (hb.block k (Array.getElem?_eq_some_iff.1 hk).1).trans hk⟩
def nodesL (l : List St) : Nat := (l.map fun s => nodesS s.a + nodesS s.b).sum
theorem nodesL_snoc (l : List St) (s : St) : nodesL (l ++ [s]) = nodesL l + (nodesS s.a + nodesS s.b) := by simp [nodesL]
theorem nodesS_le {e : Ex} {n : Nat} (h : sizeE e ≤ n) : nodesS e ≤ n := by unfold nodesS; split <;> omega
theorem nodesL_le {w0 : World} : ∀ xs : List (Item w0), nodesL (xs.map Item.st) ≤ 6000 * xs.length
  | [] => by simp [nodesL]
  | x :: xs => by
    have h1 := nodesL_le xs
    have h2 := nodesS_le x.2.2.1
    have h3 := nodesS_le x.2.2.2
    have : nodesL ((x :: xs).map Item.st) = (nodesS x.1.1.a + nodesS x.1.1.b) + nodesL (xs.map Item.st) := by simp [nodesL, Item.st]
    rw [this, List.length_cons]; omega
/-- A drawn region of ten operations whose last one stores. -/
def CntJ (W : World) (Post : World → Prop) (l : Nat → Bool) (w' : World) : Prop := (l 9 = false → Below W.heap.size W w') ∧ (l 9 = true → (∀ j, j < 9 → l j = true) ∧ Post w')
theorem CntJ.ext {W : World} {Post : World → Prop} {l l' : Nat → Bool} {w' : World} (h : CntJ W Post l w') (he : ∀ i, i < 10 → l i = l' i) : CntJ W Post l' w' :=
  ⟨fun k => h.1 (by rw [he 9 (by omega)]; exact k), fun k => by
    obtain ⟨h1, h2⟩ := h.2 (by rw [he 9 (by omega)]; exact k)
    exact ⟨fun j hj => by rw [← he j (by omega)]; exact h1 j hj, h2⟩⟩
theorem CntJ.low {W : World} {Post : World → Prop} {l : Nat → Bool} {w' : World} (h : CntJ W Post l w') {i : Nat} (hi : i < 9) (hl : l i = false) : Below W.heap.size W w' := by
  refine h.1 ?_
  cases h9 : l 9 with
  | false => rfl
  | true => have := (h.2 h9).1 i hi; rw [hl] at this; cases this
theorem CntJ.step {W : World} {Post : World → Prop} {l : Nat → Bool} {w' w'' : World} (h : CntJ W Post l w') {i : Nat} (hi : i < 9) (hl : l i = false) (hb : Below W.heap.size W w'') : CntJ W Post (doneL l i) w'' := by
  refine ⟨fun _ => hb, fun k => ?_⟩
  have h9 : l 9 = true := by
    unfold doneL at k
    rw [if_neg (by omega)] at k
    exact k
  have := (h.2 h9).1 i hi
  rw [hl] at this; cases this
theorem CntJ.last {W : World} {Post : World → Prop} {l : Nat → Bool} {w' : World} (hd : ∀ j, j < 9 → l j = true) (hp : Post w') : CntJ W Post (doneL l 9) w' := by
  refine ⟨fun k => ?_, fun _ => ⟨fun j hj => ?_, hp⟩⟩
  · unfold doneL at k; simp at k
  · unfold doneL; simp [hd j hj]
theorem Blk.noCells {W W' : World} {b : Nat} {cs : Array Value} {t : TypeId} (h : Blk W b cs t) {row : Option Nat} (hg : W.grownBy W' row) (hr : ∀ r, row = some r → ∃ o : Obj, W.heap[r]? = some o ∧ o.isCells = false) : Blk W' b cs t := by
  unfold Blk at h ⊢
  rw [hg.block b (Array.getElem?_eq_some_iff.1 h).1 (fun e => by obtain ⟨o, ho, h1⟩ := hr b e.symm; rw [h] at ho; cases ho; cases h1)]
  exact h
/-- Count's two boxes behind some statements. -/
structure CtI (w : World) (n m : Nat) (W : World) : Prop where
  b2 : Blk W w.heap.size #[.int .i64 (n : Int)] 3
  b3 : Blk W (w.heap.size + 1) #[.int .i64 (m : Int)] 3
  low : Below w.heap.size w W
theorem CtI.noCells {w W W' : World} {n m B : Nat} (h : CtI w n m W) {row : Option Nat} (hg : W.grownBy W' row) (hB : w.heap.size ≤ B) (hr : ∀ r, row = some r → B ≤ r ∧ ∃ o : Obj, W.heap[r]? = some o ∧ o.isCells = false) : CtI w n m W' :=
  ⟨h.b2.noCells hg (fun r e => (hr r e).2), h.b3.noCells hg (fun r e => (hr r e).2), h.low.grown hg h.low.size (fun k e => Nat.le_trans hB (hr k e).1)⟩
theorem CtI.below {w W W' : World} {n m : Nat} (h : CtI w n m W) (hb : Below W.heap.size W W') : CtI w n m W' := ⟨h.b2.below hb, h.b3.below hb, h.low.trans (hb.mono h.low.size)⟩
set_option maxRecDepth 100000 in
set_option maxHeartbeats 4000000 in
theorem stCount_any (l : List St) (v : Value) (w : World) (hr : RdTx w l v) (hok : ∀ s ∈ flatT l, okE s) (hsz : sizeT l ≤ 1000000) :
    Calls Try.prog 54 #[v] w fun e' w' => e' = .returned (.tuple #[.int .i64 (sizeT l : Nat), .int .i64 (nodesL (flatT l) : Nat)]) ∧ Below w.heap.size w w' := by
  have HR := hid hr
  obtain ⟨a, cap, rfl, -, -⟩ := hr
  have HOK := hid hok
  have HSZ := hid hsz
  clear hok hsz
  refine (callsIn_wide (n := 9)).1 ?_
  refine callsIn_of_wp_marks Try.func54 rfl trivial ?_ rfl
  simp only [Try.ntmps54, List.size_toArray, List.length_cons, List.length_nil, Nat.reduceAdd, Nat.reduceSub, Array.replicate_succ, Array.replicate_zero, List.push_toArray, List.append_toArray, List.nil_append, List.cons_append]
  obtain ⟨w2, hw2⟩ : ∃ w2, w2 = (w.alloc (.cells #[.int .i64 0] 3)).alloc (.cells #[.int .i64 0] 3) := ⟨_, rfl⟩
  have hb2 : Below w.heap.size w w2 := by rw [hw2]; exact ext_alloc (ext_alloc (ext_refl w) _) _
  have k2 : Blk w2 w.heap.size #[.int .i64 0] 3 := by rw [hw2]; exact (Blk.new _ _ _).alloc _
  have k3 : Blk w2 (w.heap.size + 1) #[.int .i64 0] 3 := by rw [hw2]; exact Blk.new' _ _ _ (by rw [World.size_alloc])
  have hs2 : w2.heap.size = w.heap.size + 2 := by rw [hw2, World.size_alloc, World.size_alloc]
  have HW2 := hid hw2
  have HS2 := hid hs2
  clear hw2 hs2
  gi_wp2_with fail
  refine ⟨trivial, ?_⟩
  rw [← HW2.out]
  refine (callsIn_wide.2 (all_any _ l w2 (HR.out.below hb2))).mono ?_
  rintro e' w3 ⟨rfl, hw3⟩
  have hb3 : Below w2.heap.size w2 w3 := by rw [hw3]; exact ext_alloc (ext_refl _) _
  have kb : Blk w3 w2.heap.size #[.slice a l.length cap] 56 := by rw [hw3]; exact Blk.new _ _ _
  have HS3 : Hid (w3.heap.size = w.heap.size + 3) := hid (by rw [hw3, World.size_alloc, HS2.out])
  have hbw3 := ext_trans hb2 hb3
  have HRUN := hid (all_seq 8 l _ _ w w3 HR.out hbw3 kb HOK.out)
  have HI0 : Hid (CtI w 0 0 w3) := hid ⟨k2.below hb3, k3.below hb3, hbw3⟩
  clear hb2 k2 k3 hw3 hb3 kb hbw3 HW2
  gi_wp2_with fail
  apply wpIn_rangeFunc_boxed (α := Item w) (encs := Item.enc) (Kp := KeepE w.heap.size) (S := fun xs => xs.map Item.st = flatT l) (Sp := fun xs => ∀ s ∈ xs.map Item.st, s ∈ flatT l) (N := sizeT l) (w0 := w3) rfl (by omega) (gf := 65) (lb := #[.pointer (some ⟨w2.heap.size, 0, none⟩)]) rfl trivial (enters_of Try.func65 (by kernel_rfl) rfl) HRUN.out keepE_t (keepE_b (by have := HS3.out; omega)) (Below.refl _ _) (fun _ => rfl)
    (fun pre W => CtI w pre.length (nodesL (pre.map Item.st)) W) (fun _ _ _ => False)
    (fun s A B row h hg hr => h.noCells hg (by have := HS3.out; omega) hr) (fun _ _ _ _ _ h _ _ => h) HI0.out
    (fun pre x a' W => ∃ b k t a0 a1 a2 b0 b1 b2 bo el, a' = { tmps := #[.slice a l.length cap, undef, .pointer (some ⟨w.heap.size, 0, none⟩), .pointer (some ⟨w.heap.size + 1, 0, none⟩), .pointer (some ⟨b, 0, none⟩), .slice a l.length cap, .func (.func 65) #[] #[.pointer (some ⟨w2.heap.size, 0, none⟩)], .agg #[k, t, a0, a1, a2, b0, b1, b2, bo, el], undef, undef, undef, undef, undef, undef, undef, undef, undef, undef, undef, undef, undef], defers := [] } ∧ RdSt w x.st k t a0 a1 a2 b0 b1 b2 bo el ∧
      Blk W b #[k, t, a0, a1, a2, b0, b1, b2, bo, el] 91 ∧ CtI w pre.length (nodesL (pre.map Item.st)) W)
    (fun pre x a' _ A B row h hg hr => by
      obtain ⟨b, k, t, a0, a1, a2, b0, b1, b2, bo, el, h1, h2, h3, h4⟩ := h
      exact ⟨b, k, t, a0, a1, a2, b0, b1, b2, bo, el, h1, h2, h3.noCells hg (fun r e => (hr r e).2), h4.noCells hg (by have := HS3.out; omega) hr⟩)
  case hassign =>
    intro lp pre x W K hI hK
    obtain ⟨⟨st, xv⟩, ⟨k, t, a0, a1, a2, b0, b1, b2, bo, el, hxv, hst⟩, hok⟩ := x
    dsimp only at hxv hst hok
    subst hxv
    obtain ⟨rfl, rfl, ga, gb, g3, g4⟩ := hst.shape
    obtain ⟨pa, ca, rfl, rfl, rfl⟩ := ga.shape
    obtain ⟨pb, cb, rfl, rfl, rfl⟩ := gb.shape
    obtain ⟨pp, c1, rfl, -, -⟩ := g3
    obtain ⟨pq, c2, rfl, -, -⟩ := g4
    have HK := hid hK
    have HI := hid hI
    have HST := hid hst
    clear hK hI ga gb
    unfold Item.enc
    gi_wp2
    exact HK.out _ _ (KeepsOthers.alloc _ _) (keepE_still HI.out.low.size (ext_alloc (ext_refl _) _) (KeepsWalks.alloc _ _)) ⟨W.heap.size, _, _, _, _, _, _, _, _, _, _, rfl, HST.out, Blk.new _ _ _, HI.out.below (ext_alloc (ext_refl _) _)⟩
  case hbody =>
    rintro lp pre x a' W ⟨b, k, t, a0, a1, a2, b0, b1, b2, bo, el, rfl, hst, hbx, hI⟩ hlen
    have HOKX : Hid (okE x.st) := hid x.2.2
    have HPL : Hid ((pre ++ [x]).length = pre.length + 1) := hid (by simp)
    have HPN : Hid (nodesL ((pre ++ [x]).map Item.st) = nodesL (pre.map Item.st) + (nodesS x.st.a + nodesS x.st.b)) := hid (by rw [List.map_append]; exact nodesL_snoc _ _)
    have HML := hid (nodesL_le pre)
    have HLE := hid hlen
    clear hlen
    generalize nodesL (pre.map Item.st) = m at *
    generalize pre.length = n0 at *
    generalize x.st = st at *
    obtain ⟨rfl, rfl, ga, gb, g3, g4⟩ := hst.shape
    obtain ⟨pa, ca, rfl, rfl, rfl⟩ := ga.shape
    obtain ⟨pb, cb, rfl, rfl, rfl⟩ := gb.shape
    obtain ⟨pp, c1, rfl, -, -⟩ := g3
    obtain ⟨pq, c2, rfl, -, -⟩ := g4
    have hna := nodesS_le HOKX.out.1
    have hnb := nodesS_le HOKX.out.2
    obtain ⟨na, hNA⟩ : ∃ na, nodesS st.a = na := ⟨_, rfl⟩
    obtain ⟨nb, hNB⟩ : ∃ nb, nodesS st.b = nb := ⟨_, rfl⟩
    rw [hNA] at hna HPN
    rw [hNB] at hnb HPN
    have HNA := hid hNA
    have HNB := hid hNB
    have HGA := hid ga
    have HGB := hid gb
    have HN0 : Hid (n0 ≤ 1000000 ∧ m ≤ 6000000000) := hid (by have h1 := HLE.out; have h2 := HML.out; have h3 := HSZ.out; omega)
    have hwr : IntKind.i64.wrap ((n0 : Int) + 1) = (n0 : Int) + 1 := IntWalk.i64_in _ (by have := HN0.out; omega)
    have HQ1 : Hid (IntKind.i64.wrap ((na : Int) + (nb : Int)) = (na : Int) + (nb : Int)) := hid (IntWalk.i64_in _ (by omega))
    have HQ2 : Hid (IntKind.i64.wrap ((m : Int) + ((na : Int) + (nb : Int))) = (m : Int) + ((na : Int) + (nb : Int))) := hid (IntWalk.i64_in _ (by have := HN0.out; omega))
    have c2' := hI.b2.cell 0 (v := .int .i64 (n0 : Int)) rfl
    have f2' := hI.b2.free 0
    obtain ⟨W1, hW1⟩ : ∃ W1, W1 = W.setCell ⟨w.heap.size, 0, none⟩ (.int .i64 ((n0 : Int) + 1)) := ⟨_, rfl⟩
    have HB21 : Hid (Blk W1 w.heap.size #[.int .i64 ((n0 : Int) + 1)] 3) := hid (by rw [hW1]; exact hI.b2.set 0 _)
    have HB31 : Hid (Blk W1 (w.heap.size + 1) #[.int .i64 (m : Int)] 3) := hid (by rw [hW1]; exact hI.b3.set_other _ _ (by show w.heap.size + 1 ≠ w.heap.size; omega))
    have HX1 : Hid (Blk W1 b #[.int .u8 st.kind, .int .i64 st.to, .int .u8 st.a.op, .int .i64 st.a.n, .slice pa st.a.args.length ca, .int .u8 st.b.op, .int .i64 st.b.n, .slice pb st.b.args.length cb, .slice pp st.body.length c1, .slice pq st.els.length c2] 91) := hid (by rw [hW1]; exact hbx.set_other _ _ (hbx.apart hI.b2 (by decide)))
    have HLW : Hid (Below w.heap.size w W1) := hid (by rw [hW1]; exact hI.low.setCell (p := ⟨w.heap.size, 0, none⟩) (Nat.le_refl _) _)
    have HKO1 : Hid (KeepsOthers W W1) := hid (by rw [hW1]; exact KeepsOthers.setCell _ _ _)
    have HKE1 : Hid (KeepE w.heap.size W W1) := hid (by rw [hW1]; exact keepE_set hI.b2 (by decide) (Nat.le_refl _) 0 _)
    have HW1 := hid hW1
    have HI := hid hI
    clear hst ga gb hna hnb hNA hNB hbx hI hW1
    gi_wp2
    rw [← HW1.out]
    clear c2' f2' hwr
    apply wp_round_valsJ [.int .i64 (m : Int), .pointer (some ⟨b, 2, none⟩), .agg #[.int .u8 st.a.op, .int .i64 st.a.n, .slice pa st.a.args.length ca], .int .i64 (na : Int), .pointer (some ⟨b, 5, none⟩), .agg #[.int .u8 st.b.op, .int .i64 st.b.n, .slice pb st.b.args.length cb], .int .i64 (nb : Int), .int .i64 ((na : Int) + (nb : Int)), .int .i64 ((m : Int) + ((na : Int) + (nb : Int))), undef] (CntJ W1 (fun w'' => ∃ w4, Below W1.heap.size W1 w4 ∧ w'' = w4.setCell ⟨w.heap.size + 1, 0, none⟩ (.int .i64 ((m : Int) + ((na : Int) + (nb : Int))))))
    focus (simp [putAll, dstOf, Act.put, List.getD]; rfl)
    case hm => kernel_rfl
    case hnd => kernel_rfl
    case hq => rintro ⟨ax, wx, hx⟩; exact hx
    case hd => kernel_rfl
    case hb => kernel_rfl
    case hdep => kernel_rfl
    case hsel => kernel_rfl
    case hng => kernel_rfl
    case hgv => kernel_rfl
    case hsz => kernel_rfl
    case hext => exact fun l1 l2 w' hx hG => hG.ext hx
    case h0 => exact ⟨fun _ => ext_drew (ext_refl _), fun h => by cases h⟩
    case hdone =>
      intro w' hJ
      obtain ⟨-, w4, hb4, hw⟩ := hJ.2 rfl
      have h34 := HB31.out.below hb4
      have HE : Hid (KeepsOthers W w' ∧ KeepE w.heap.size W w' ∧ CtI w (pre ++ [x]).length (nodesL ((pre ++ [x]).map Item.st)) w') := hid (by
        subst hw
        refine ⟨(HKO1.out.trans (keepsOthers_below hb4)).trans (KeepsOthers.setCell _ _ _), keepE_t (keepE_t HKE1.out (keepE_still HLW.out.size hb4 (keepsOthers_below hb4).walks)) (keepE_set h34 (by decide) (Nat.le_succ _) 0 _), ?_, ?_, ?_⟩
        · rw [HPL.out]; exact (HB21.out.below hb4).set_other _ _ (by show w.heap.size ≠ w.heap.size + 1; omega)
        · rw [HPN.out]; exact h34.set 0 _
        · exact (HLW.out.trans (hb4.mono HLW.out.size)).setCell (p := ⟨w.heap.size + 1, 0, none⟩) (Nat.le_succ _) _)
      exact HE.out
    refine ⟨?_, ?_, ?_, ?_, ?_, ?_, ?_, ?_, ?_, ?_, trivial⟩
    · intro l' w' hl hdp hJ
      rw [if_pos (by kernel_rfl)]
      intro K' Qp hK
      have hb := hJ.low (i := 0) (by decide) hl
      have z3 := (HB31.out.below hb).cell 0 (v := .int .i64 (m : Int)) rfl
      have HJ := hid hJ
      have HBB := hid hb
      have HL := hid hl
      clear hJ hb hl hdp
      go_simp
      exact hK _ (HJ.out.step (i := 0) (by decide) HL.out HBB.out)
    · intro l' w' hl hdp hJ
      rw [if_pos (by kernel_rfl)]
      intro K' Qp hK
      have hb := hJ.low (i := 1) (by decide) hl
      have HJ := hid hJ
      have HBB := hid hb
      have HL := hid hl
      clear hJ hb hl hdp
      go_simp
      exact hK _ (HJ.out.step (i := 1) (by decide) HL.out HBB.out)
    · intro l' w' hl hdp hJ
      rw [if_pos (by kernel_rfl)]
      intro K' Qp hK
      have hb := hJ.low (i := 2) (by decide) hl
      have y2 := (HX1.out.below hb).cell 2 (v := .int .u8 st.a.op) rfl
      have y3 := (HX1.out.below hb).cell 3 (v := .int .i64 st.a.n) rfl
      have y4 := (HX1.out.below hb).cell 4 (v := .slice pa st.a.args.length ca) rfl
      have HJ := hid hJ
      have HBB := hid hb
      have HL := hid hl
      clear hJ hb hl hdp
      go_simp
      exact hK _ (HJ.out.step (i := 2) (by decide) HL.out HBB.out)
    · intro l' w' hl hdp hJ
      rw [if_pos (by kernel_rfl)]
      intro K' Qp hK
      have hb := hJ.low (i := 3) (by decide) hl
      have HJ := hid hJ
      have HBB := hid hb
      have HL := hid hl
      clear hJ hb hl hdp
      go_simp
      refine (nodes_any st.a w' _ _ _ (HGA.out.below (HLW.out.trans (HBB.out.mono HLW.out.size))) (by have := HOKX.out.1; omega)).mono ?_
      rintro e' w'' ⟨rfl, hbn⟩
      rw [HNA.out]
      go_simp
      exact hK _ (HJ.out.step (i := 3) (by decide) HL.out (ext_trans HBB.out hbn))
    · intro l' w' hl hdp hJ
      rw [if_pos (by kernel_rfl)]
      intro K' Qp hK
      have hb := hJ.low (i := 4) (by decide) hl
      have HJ := hid hJ
      have HBB := hid hb
      have HL := hid hl
      clear hJ hb hl hdp
      go_simp
      exact hK _ (HJ.out.step (i := 4) (by decide) HL.out HBB.out)
    · intro l' w' hl hdp hJ
      rw [if_pos (by kernel_rfl)]
      intro K' Qp hK
      have hb := hJ.low (i := 5) (by decide) hl
      have y5 := (HX1.out.below hb).cell 5 (v := .int .u8 st.b.op) rfl
      have y6 := (HX1.out.below hb).cell 6 (v := .int .i64 st.b.n) rfl
      have y7 := (HX1.out.below hb).cell 7 (v := .slice pb st.b.args.length cb) rfl
      have HJ := hid hJ
      have HBB := hid hb
      have HL := hid hl
      clear hJ hb hl hdp
      go_simp
      exact hK _ (HJ.out.step (i := 5) (by decide) HL.out HBB.out)
    · intro l' w' hl hdp hJ
      rw [if_pos (by kernel_rfl)]
      intro K' Qp hK
      have hb := hJ.low (i := 6) (by decide) hl
      have HJ := hid hJ
      have HBB := hid hb
      have HL := hid hl
      clear hJ hb hl hdp
      go_simp
      refine (nodes_any st.b w' _ _ _ (HGB.out.below (HLW.out.trans (HBB.out.mono HLW.out.size))) (by have := HOKX.out.2; omega)).mono ?_
      rintro e' w'' ⟨rfl, hbn⟩
      rw [HNB.out]
      go_simp
      exact hK _ (HJ.out.step (i := 6) (by decide) HL.out (ext_trans HBB.out hbn))
    · intro l' w' hl hdp hJ
      rw [if_pos (by kernel_rfl)]
      intro K' Qp hK
      have hb := hJ.low (i := 7) (by decide) hl
      have q1 := HQ1.out
      have HJ := hid hJ
      have HBB := hid hb
      have HL := hid hl
      clear hJ hb hl hdp
      go_simp
      exact hK _ (HJ.out.step (i := 7) (by decide) HL.out HBB.out)
    · intro l' w' hl hdp hJ
      rw [if_pos (by kernel_rfl)]
      intro K' Qp hK
      have hb := hJ.low (i := 8) (by decide) hl
      have q2 := HQ2.out
      have HJ := hid hJ
      have HBB := hid hb
      have HL := hid hl
      clear hJ hb hl hdp
      go_simp
      exact hK _ (HJ.out.step (i := 8) (by decide) HL.out HBB.out)
    · intro l' w' hl hdp hJ
      rw [if_pos (by kernel_rfl)]
      intro K' Qp hK
      have hb := hJ.1 hl
      have HD : Hid (∀ j, j < 9 → l' j = true) := hid (fun j hj => by rcases (show j = 0 ∨ j = 1 ∨ j = 2 ∨ j = 3 ∨ j = 4 ∨ j = 5 ∨ j = 6 ∨ j = 7 ∨ j = 8 from by omega) with rfl | rfl | rfl | rfl | rfl | rfl | rfl | rfl | rfl <;> exact hdp _ (by kernel_rfl))
      have z3 := (HB31.out.below hb).cell 0 (v := .int .i64 (m : Int)) rfl
      have y3 := (HB31.out.below hb).free 0
      have HJ := hid hJ
      have HBB := hid hb
      have HL := hid hl
      clear hJ hb hl hdp
      go_simp
      exact hK _ (CntJ.last HD.out ⟨w', HBB.out, rfl⟩)
  case hdone =>
    rintro D xs W hD hS hI hK
    have HL : Hid (xs.length = sizeT l) := hid (by rw [← flatT_len, ← hS, List.length_map])
    have c2' := hI.b2.cell 0 (v := .int .i64 (xs.length : Int)) rfl
    have f2' := hI.b2.free 0
    have c3' := hI.b3.cell 0 (v := .int .i64 (nodesL (xs.map Item.st) : Int)) rfl
    have f3' := hI.b3.free 0
    have HM : Hid (nodesL (xs.map Item.st) = nodesL (flatT l)) := hid (by rw [hS])
    have HI := hid hI
    have HK := hid hK
    have HDD := hid hD
    clear hS hI hK hD
    generalize xs.length = n1 at *
    generalize nodesL (xs.map Item.st) = m1 at *
    gi_wp2
    clear c2' f2' c3' f3'
    refine wpIn_wide.2 ?_
    apply wp_region_valsJ [.int .i64 (n1 : Int), .int .i64 (m1 : Int), undef, undef] (fun _ w' => CtI w n1 m1 w' ∧ w'.heap[D]? = some (.deferred (some [])))
    focus (simp [putAll, dstOf, Act.put, List.getD]; rfl)
    case hm => kernel_rfl
    case hd => kernel_rfl
    case hb => kernel_rfl
    case hdep => kernel_rfl
    case hsel => kernel_rfl
    case hng => kernel_rfl
    case hgv => kernel_rfl
    case hsz => kernel_rfl
    case hext => exact fun l1 l2 w' hx hG => hG
    case h0 => exact ⟨⟨HI.out.b2.drew, HI.out.b3.drew, ext_drew HI.out.low⟩, HK.out⟩
    case hdone =>
      intro w' hJ
      have z2 := hJ.1.b2.cell 0 (v := .int .i64 (n1 : Int)) rfl
      have z3 := hJ.1.b3.cell 0 (v := .int .i64 (m1 : Int)) rfl
      have HJ := hid hJ
      clear hJ
      gi_wp2
      refine ⟨by simp, .inl ⟨_, _, rfl, run_takeDeferred HJ.out.2, ?_⟩⟩
      have hD' : D ≠ w.heap.size ∧ D ≠ w.heap.size + 1 := by have := HDD.out; have := HS3.out; omega
      have p2 : Blk (w'.putObj D (.deferred none)) w.heap.size #[.int .i64 (n1 : Int)] 3 := by
        have := HJ.out.1.b2
        unfold Blk at this ⊢
        rw [World.putObj_heap_other hD'.1.symm]; exact this
      have p3 : Blk (w'.putObj D (.deferred none)) (w.heap.size + 1) #[.int .i64 (m1 : Int)] 3 := by
        have := HJ.out.1.b3
        unfold Blk at this ⊢
        rw [World.putObj_heap_other hD'.2.symm]; exact this
      have q2 := p2.cell 0 (v := .int .i64 (n1 : Int)) rfl
      have q3 := p3.cell 0 (v := .int .i64 (m1 : Int)) rfl
      refine ⟨.tuple #[.int .i64 (n1 : Int), .int .i64 (m1 : Int)], by simp [results, Try.results54, go_sem, q2, q3], ?_, ?_⟩
      · rw [HL.out, HM.out]
      · exact HJ.out.1.low.trans (belowK_b (w := w) (Nat.le_refl _) w' D _ _ (by have := HDD.out; have := HS3.out; omega) HJ.out.2 rfl rfl)
    refine ⟨?_, ?_, ?_, ?_, trivial⟩
    · intro l' w' hl hdp hJ
      rw [if_pos (by kernel_rfl)]
      intro K' Qp hK
      have z2 := hJ.1.b2.cell 0 (v := .int .i64 (n1 : Int)) rfl
      have HJ := hid hJ
      clear hJ hl hdp
      go_simp
      exact hK _ HJ.out
    · intro l' w' hl hdp hJ
      rw [if_pos (by kernel_rfl)]
      intro K' Qp hK
      have z3 := hJ.1.b3.cell 0 (v := .int .i64 (m1 : Int)) rfl
      have HJ := hid hJ
      clear hJ hl hdp
      go_simp
      exact hK _ HJ.out
    · intro l' w' hl hdp hJ
      rw [if_pos (by kernel_rfl)]
      intro K' Qp hK
      have z2 := hJ.1.b2.cell 0 (v := .int .i64 (n1 : Int)) rfl
      have g2 := hJ.1.b2.free 0
      have HJ := hid hJ
      clear hJ hl hdp
      go_simp
      exact hK _ ⟨⟨HJ.out.1.b2.set 0 _, HJ.out.1.b3.set_other _ _ (by show w.heap.size + 1 ≠ w.heap.size; omega), HJ.out.1.low.setCell (p := ⟨w.heap.size, 0, none⟩) (Nat.le_refl _) _⟩, (KeepsOthers.setCell _ _ _).same _ _ HJ.out.2 rfl⟩
    · intro l' w' hl hdp hJ
      rw [if_pos (by kernel_rfl)]
      intro K' Qp hK
      have z3 := hJ.1.b3.cell 0 (v := .int .i64 (m1 : Int)) rfl
      have g3 := hJ.1.b3.free 0
      have HJ := hid hJ
      clear hJ hl hdp
      go_simp
      exact hK _ ⟨⟨HJ.out.1.b2.set_other _ _ (by show w.heap.size ≠ w.heap.size + 1; omega), HJ.out.1.b3.set 0 _, HJ.out.1.low.setCell (p := ⟨w.heap.size + 1, 0, none⟩) (Nat.le_succ _) _⟩, (KeepsOthers.setCell _ _ _).same _ _ HJ.out.2 rfl⟩
  case hstop =>
    intro D c pre W _ _ h; exact h.elim
end Go.Proofs.Ytaklfjjkeebheaa
