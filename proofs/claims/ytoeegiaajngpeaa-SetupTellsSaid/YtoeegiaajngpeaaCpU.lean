/-
  Copies of setups, walked: rows are cloned, then each element is replaced in its place (printed by tools/gen_cpu.py).
-/
import Derived.Test.YtoeegiaajngpeaaCpV
namespace Go.Proofs.Ytoeegiaajngpeaa
set_option linter.unusedVariables false
set_option linter.unusedSimpArgs false
set_option linter.unusedVariables false
open Go Go.RowKit
structure SuI (w wI : World) (st ck tr : Int) (ths : List (List (List St))) (v1 v2 : Value) (i : Nat) (xs : List Value) (wr : World) : Prop where
  half : HalfG (RdTh w) (RdThO w.heap.size) 32 wr wI.heap.size ths i v2 xs
  b0 : Blk wr w.heap.size #[.int .i64 st, .int .i64 ck, .int .i64 tr, v1, v2] 25
  b1 : Blk wr (w.heap.size + 1) #[.int .i64 0, .int .i64 0, .int .i64 0, .slice none 0 0, .slice none 0 0] 25
  bw : Below w.heap.size w wr
  ag : Agree (w.heap.size + 2) wI.heap.size wI wr
  sz : w.heap.size + 2 ≤ wI.heap.size
/-- Inside a thread: what is turned is the row of threads, at one place. -/
structure SuJ (w wI wo : World) (ths : List (List (List St))) (g0 c0 k : Nat) (th : List (List St)) (g1 c5 : Nat) (xs : List Value) (j : Nat) (v5 : Value) (ys : List Value) (wr : World) : Prop where
  half : HalfG (RdTx w) (fun w' t x => RdTxO w.heap.size t w' x) 37 wr wo.heap.size th j v5 ys
  keep : ∀ b, b < wo.heap.size → b ≠ g0 → wr.heap[b]? = wo.heap[b]?
  row : wr.ownsRow wI.heap.size 32 1 (.slice (some ⟨g0, 0, none⟩) ths.length c0) ths.length (xs.set k v5)
  bw : Below w.heap.size w wr
theorem ownsRow_base {w : World} {base base' size n : Nat} {e : TypeId} {v : Value} {xs : List Value} (h : w.ownsRow base e size v n xs) (hb : base' ≤ base) : w.ownsRow base' e size v n xs := by
  obtain ⟨h1, h2 | ⟨g, cap, cur, rfl, hg, r⟩⟩ := h
  · exact ⟨h1, .inl h2⟩
  · exact ⟨h1, .inr ⟨g, cap, cur, rfl, by omega, r⟩⟩
theorem blk_keep {w w' : World} {b : Nat} {cs : Array Value} {t : TypeId} (h : Blk w b cs t) (hk : w'.heap[b]? = w.heap[b]?) : Blk w' b cs t := hk.trans h
def CuV (th : List (List St)) (x0 x1 x2 x3 : Value) (lo : Nat) (ys : List Value) : Nat → Value → World → Prop
  | 0, x, _ => x = x0
  | 1, x, _ => x = x1
  | 2, x, _ => x = x2
  | 3, x, _ => x = x3
  | 4, x, w => w.ownsRow lo 37 1 x th.length ys
  | _ + 5, _, _ => True
theorem CuV.stab {th : List (List St)} {x0 x1 x2 x3 : Value} {lo : Nat} {ys : List Value} {i : Nat} {x : Value} {w1 w2 : World} (h : CuV th x0 x1 x2 x3 lo ys i x w1) (hb : Below w1.heap.size w1 w2) : CuV th x0 x1 x2 x3 lo ys i x w2 := by
  match i, h with
  | 4, h => exact ownsRow_frame (show w1.ownsRow lo 37 1 x th.length ys from h) fun g hg => hb.block g ((show w1.ownsRow lo 37 1 x th.length ys from h).lt g hg).2
  | 0, h => exact h
  | 1, h => exact h
  | 2, h => exact h
  | 3, h => exact h
  | n + 5, h => trivial
def CuS (wr : World) (th : List (List St)) (x1 x2 : Value) (lo : Nat) (ys : List Value) (g i : Nat) : Nat → (Nat → Value) → World → Prop
  | 5, vs, w => Below wr.heap.size wr w ∧ vs 1 = x1 ∧ vs 2 = x2 ∧ w.ownsRow lo 37 1 (vs 4) th.length ys
  | 6, vs, w => Below wr.heap.size wr w ∧ vs 5 = .pointer (some ⟨g, i, none⟩) ∧ w.ownsRow lo 37 1 (vs 4) th.length ys
  | 7, vs, w => ∃ w0 v5, w = w0.setCell ⟨g, i, none⟩ v5 ∧ Below wr.heap.size wr w0 ∧ w0.ownsRow lo 37 1 v5 th.length ys
  | _, _, _ => False
def CvV (lo : Nat) (tx : List St) (x0 x1 x2 x3 x4 x5 x6 : Value) : Nat → Value → World → Prop
  | 0, x, _ => x = x0
  | 1, x, _ => x = x1
  | 2, x, _ => x = x2
  | 3, x, _ => x = x3
  | 4, x, _ => x = x4
  | 5, x, _ => x = x5
  | 6, x, _ => x = x6
  | 7, x, w => lo ≤ w.heap.size ∧ ∀ w'', Agree lo w.heap.size w w'' → RdTxO lo tx w'' x
  | _ + 8, _, _ => True
theorem CvV.stab {lo : Nat} {tx : List St} {x0 x1 x2 x3 x4 x5 x6 : Value} {i : Nat} {x : Value} {w1 w2 : World} (h : CvV lo tx x0 x1 x2 x3 x4 x5 x6 i x w1) (hb : Below w1.heap.size w1 w2) : CvV lo tx x0 x1 x2 x3 x4 x5 x6 i x w2 := by
  match i, h with
  | 7, h => exact ⟨Nat.le_trans h.1 hb.size, fun w'' hw => h.2 w'' (agree_later hb hw)⟩
  | 0, h => exact h
  | 1, h => exact h
  | 2, h => exact h
  | 3, h => exact h
  | 4, h => exact h
  | 5, h => exact h
  | 6, h => exact h
  | n + 8, h => trivial
def CvS (wr : World) (tx : List St) (x4 x5 : Value) (g i : Nat) : Nat → (Nat → Value) → World → Prop
  | 8, vs, w => Below wr.heap.size wr w ∧ vs 4 = x4 ∧ vs 5 = x5 ∧ ∀ w'', Agree wr.heap.size w.heap.size w w'' → RdTxO wr.heap.size tx w'' (vs 7)
  | 9, vs, w => Below wr.heap.size wr w ∧ vs 8 = .pointer (some ⟨g, i, none⟩) ∧ ∀ w'', Agree wr.heap.size w.heap.size w w'' → RdTxO wr.heap.size tx w'' (vs 7)
  | 10, vs, w => ∃ w0 p c, w = w0.setCell ⟨g, i, none⟩ (.slice p tx.length c) ∧ Below wr.heap.size wr w0 ∧ ∀ w'', Agree wr.heap.size w0.heap.size w0 w'' → RdTxO wr.heap.size tx w'' (.slice p tx.length c)
  | _, _, _ => False
set_option maxRecDepth 100000 in
set_option maxHeartbeats 4000000 in
theorem scopy_any (st ck tr : Int) (is : List Int) (ths : List (List (List St))) (vi v : Value) (w : World) (hi : RdInts w is vi) (hr : RdThs w ths v) (hil : is.length ≤ 1000000) (hll : ths.length ≤ 20) (hok : ∀ th ∈ ths, okTh th) :
    Calls Try.prog 11 #[.agg #[.int .i64 st, .int .i64 ck, .int .i64 tr, vi, v]] w (SCopyO st ck tr is ths w) := by
  obtain ⟨pi, ci, rfl⟩ := ints_slice hi
  have HRS := hid hr
  obtain ⟨a, cap, rfl, hlen, -⟩ := hr
  obtain ⟨xs0, hx1, hx2, hx3, hx4⟩ := RdSl.cells HRS.out
  have hx5 := one_of_slices hx1 hx2 (fun a x h => by obtain ⟨p, c, rfl, -⟩ := h; exact ⟨_, _, _, rfl⟩)
  obtain ⟨hi1, hi2⟩ := ints_cells hi
  have HX2 := hid hx2
  have HLL := hid hll
  have HOK := hid hok
  obtain ⟨wA, hwA⟩ : ∃ wA, wA = (w.alloc (.cells #[.int .i64 st, .int .i64 ck, .int .i64 tr, .slice pi is.length ci, .slice a ths.length cap] 25)).alloc (.cells #[.int .i64 0, .int .i64 0, .int .i64 0, .slice none 0 0, .slice none 0 0] 25) := ⟨_, rfl⟩
  have hbA : Below w.heap.size w wA := by rw [hwA]; exact ext_alloc (ext_alloc (ext_refl _) _) _
  have hA0 : Blk wA w.heap.size #[.int .i64 st, .int .i64 ck, .int .i64 tr, .slice pi is.length ci, .slice a ths.length cap] 25 := by rw [hwA]; exact (Blk.new _ _ _).alloc _
  have hA1 : Blk wA (w.heap.size + 1) #[.int .i64 0, .int .i64 0, .int .i64 0, .slice none 0 0, .slice none 0 0] 25 := by rw [hwA]; exact Blk.new' _ _ _ (by simp)
  have hAs : wA.heap.size = w.heap.size + 2 := by rw [hwA]; simp
  have HC1 := hid (clone_ints wA pi is.length ci (is.map (Value.int .i64)) hil (by simp) (by intro u hu; obtain ⟨x, -, rfl⟩ := List.mem_map.1 hu; rfl) hi1 (fun ad had j u hu => later_at hbA (hi2 ad had j u hu)))
  have HC2 := hid (fun (W : World) (hb : Below w.heap.size w W) => clone_ths W a ths.length cap xs0 (by omega) hx1 hx5 hx3 (fun ad had j u hu => later_at hb (hx4 ad had j u hu)))
  have HWA := hid hwA
  have HBA := hid hbA
  have HA0 := hid hA0
  have HA1 := hid hA1
  have HAS := hid hAs
  clear hx2 hx3 hx4 hx5 hi1 hi2 hil hll hok hwA hbA hA0 hA1 hAs hi
  go_enter Try.func11, Try.ntmps11
  go_wp2_with fail
  rw [← HWA.out]
  refine HC1.out.mono ?_
  rintro e wI ⟨v1, rfl, hown1, hbI⟩
  obtain ⟨p1, c1, rfl⟩ := owns_slice hown1
  have hI0 := HA0.out.below hbI
  have hI1 := HA1.out.below hbI
  have e3 := hI0.free 3
  have y3 := hI0.cell 3 (v := .slice pi is.length ci) rfl
  have y4 := hI0.cell 4 (v := .slice a ths.length cap) rfl
  have lI := hI0.lt
  have hBs := hI0.set 3 (.slice p1 is.length c1)
  simp at hBs
  have HB0 := hid hBs
  have HB1 : Hid (Blk (wI.setCell ⟨w.heap.size, 3, none⟩ (.slice p1 is.length c1)) (w.heap.size + 1) _ _) := hid (hI1.set_other _ _ (by dsimp only; omega))
  have HBI := hid (ext_trans HBA.out hbI)
  have HOWN1 := hid hown1
  have HIS : Hid (w.heap.size + 2 ≤ wI.heap.size) := hid (by have := HAS.out; have := hbI.size; omega)
  clear hown1 hbI hI0 hI1 hBs HC1
  go_wp2_with fail
  refine (HC2.out _ (ext_set HBI.out (by dsimp only; omega) _)).mono ?_
  rintro e wT ⟨v2, rfl, hown2, hbT⟩
  obtain ⟨p2, c2, rfl⟩ := owns_slice hown2
  rw [size_setCell] at hown2
  have hT0 := HB0.out.below hbT
  have hT1 := HB1.out.below hbT
  have hs2 := hbT.size
  rw [size_setCell] at hs2
  have hset := hT0.set 4 (.slice p2 ths.length c2)
  simp at hset
  have hT4 := hT0.free 4
  have z4 := hT0.cell 4 (v := .slice a ths.length cap) rfl
  have lT := hT0.lt
  have HS0 : Hid (SuI w wI st ck tr ths (.slice p1 is.length c1) (.slice p2 ths.length c2) 0 xs0 (wT.setCell ⟨w.heap.size, 4, none⟩ (.slice p2 ths.length c2))) := hid (by
    have h1 := HIS.out
    refine ⟨HalfG.agree ⟨hown2, by omega, fun j hj _ => HX2.out j hj, fun j hj h => by omega⟩ (Agree.set _ _ (by dsimp only; omega)) (by rw [size_setCell]; exact Nat.le_refl _), hset, hT1.set_other _ _ (by dsimp only; omega), ext_set (ext_trans (ext_set HBI.out (p := ⟨w.heap.size, 3, none⟩) (Nat.le_refl _) _) hbT) (Nat.le_refl _) _, ?_, h1⟩
    · refine Agree.trans (Agree.trans (Agree.set _ _ (by dsimp only; omega)) (fun b hb1 hb2 => hbT.block b (by rw [size_setCell]; exact hb2))) (Agree.set _ _ (by dsimp only; omega)))
  have hset4 := hset.cell 4 (v := .slice p2 ths.length c2) rfl
  clear e3 y3 y4 lI hown2 hT0 hT1 hset hbT HB0 HB1 HC2 HBI
  go_wp2_with fail
  go_loopw [18] (fun i wr => ∃ (k : Nat) (xs : List Value), k ≤ ths.length ∧ i = .int .i64 k ∧ Hid (SuI w wI st ck tr ths (.slice p1 is.length c1) (.slice p2 ths.length c2) k xs wr)) (fun i _ => ths.length - (intOf i).toNat)
  case atStart => exact ⟨0, xs0, Nat.zero_le _, rfl, HS0⟩
  case round =>
    clear hT4 z4 lT hset4 hs2 HS0
    obtain ⟨wo, rfl⟩ : ∃ wo, wo = wr := ⟨_, rfl⟩
    obtain ⟨k, xs, hk, rfl, HR⟩ := hrel
    by_cases hlt : k < ths.length
    · obtain ⟨g0, c0, cur, hv2, hg1, hg2, hcur, hc0, hcs, hat⟩ := owns_at HR.out.half.1 (by omega)
      cases hv2
      obtain ⟨x, hxk, hxt⟩ := HR.out.half.2.2.1 k hlt (Nat.le_refl _)
      have HRT := hid hxt
      obtain ⟨pt, ct, rfl, hlt', -⟩ := hxt
      have d0 := hcur.cell k (hat k _ hxk)
      have df := hcur.free k
      have c4 := HR.out.b0.cell 4 (v := .slice (some ⟨g0, 0, none⟩) ths.length c2) rfl
      have lw := HR.out.b0.lt
      have hokt := HOK.out _ (List.getElem_mem hlt)
      obtain ⟨th, hth⟩ : ∃ th, ths[k]'hlt = th := ⟨_, rfl⟩
      rw [hth] at hokt HRT d0 hlt' hxk
      have HTH := hid hth
      have HLT := hid hlt
      have HXK := hid hxk
      have HOKT := hid hokt
      have HG1 := hid hg1
      have hl20 := hokt.1
      obtain ⟨ys, hy1, hy2, hy3, hy4⟩ := RdSl.cells HRT.out
      have hy5 := one_of_slices hy1 hy2 (fun a x h => by obtain ⟨p, c, rfl, -⟩ := h; exact ⟨_, _, _, rfl⟩)
      have HC3 := hid (fun (W : World) (hb : Below w.heap.size w W) => clone_tx W pt th.length ct ys (by omega) hy1 hy5 hy3 (fun ad had j u hu => later_at hb (hy4 ad had j u hu)))
      have HY2 := hid hy2
      have HY4 := hid hy4
      have HY3 := hid hy3
      have HY1 := hid hy1
      have HCUR := hid hcur
      have HAT := hid hat
      have j1 : decide ((k : Int) < (ths.length : Int)) = true := by rw [decide_eq_true_iff]; omega
      have j1n : decide (k < ths.length) = true := decide_eq_true hlt
      have j2 : (0 : Int) ≤ (k : Int) := by omega
      have j2n : (k : Int) < (ths.length : Int) := by omega
      have j3 : IntKind.i64.wrap ((k : Int) + 1) = (k : Int) + 1 := IntWalk.i64_in _ (by have := HLL.out; omega)
      have HD0 := hid d0
      have HDF := hid df
      have HC4 := hid c4
      clear hth hxk hokt hg1 hy1 hy2 hy3 hy4 hy5 hcur hat
      go_upto_if 30 with fail
      apply wp_region_then 5 (CuV th (.pointer (some ⟨w.heap.size, 4, none⟩)) (.slice (some ⟨g0, 0, none⟩) ths.length c2) (.int .i64 (k : Int)) (.slice pt th.length ct) wo.heap.size ys) (fun w' => Below wo.heap.size wo w') (fun w1 w2 => Below w1.heap.size w1 w2) (CuS wo th (.slice (some ⟨g0, 0, none⟩) ths.length c2) (.int .i64 (k : Int)) wo.heap.size ys g0 k)
      focus (intro vals; simp [putAll, dstOf, Act.put, List.getD]; rfl)
      case hm => kernel_rfl
      case hd => kernel_rfl
      case hb => kernel_rfl
      case hng => kernel_rfl
      case hsz => kernel_rfl
      case hN => rfl
      case htail => kernel_rfl
      case hstab => exact fun i x w1 w2 h hb => h.stab hb
      case h0 => exact ext_drew (ext_refl _)
      case hstart => exact fun vs w' hG hV => ⟨hG, hV 1 (by omega), hV 2 (by omega), hV 4 (by omega)⟩
      case hstepA =>
        refine ⟨?_, ?_, ?_, ?_, ?_, trivial⟩
        all_goals (
          refine ⟨(fun g b h => by cases h), fun w' hG hg ρ h1 h2 h3 h4 h5 => ?_⟩
          have hG := hid hG)
        · have f1 : ρ (.tmp 1) = .pointer (some ⟨w.heap.size, 0, none⟩) := h5 1 (by kernel_rfl)
          clear h4 h5
          unfold OpY
          go_simp
          exact ⟨rfl, hG.out, ext_refl _⟩
        · have f23 : ρ (.tmp 23) = .pointer (some ⟨w.heap.size, 4, none⟩) := h4 0 23 (by kernel_rfl) (by kernel_rfl)
          have c4' := later hG.out HC4.out
          clear h4 h5
          unfold OpY
          go_simp
          exact ⟨rfl, hG.out, ext_refl _⟩
        · have f3 : ρ (.tmp 3) = .int .i64 (k : Int) := h5 3 (by kernel_rfl)
          clear h4 h5
          unfold OpY
          go_simp
          exact ⟨rfl, hG.out, ext_refl _⟩
        · have f4 : ρ (.tmp 4) = .slice pt th.length ct := h5 4 (by kernel_rfl)
          clear h4 h5
          unfold OpY
          go_simp
          exact ⟨rfl, hG.out, ext_refl _⟩
        · have f26 : ρ (.tmp 26) = .slice pt th.length ct := h4 3 26 (by kernel_rfl) (by kernel_rfl)
          clear h4 h5
          unfold OpY
          go_simp
          unfold OpR
          refine (HC3.out _ (ext_trans HR.out.bw hG.out)).mono ?_
          rintro e' w2 ⟨v5, rfl, ho, hb2⟩
          exact ⟨_, rfl, ownsRow_base ho hG.out.size, ext_trans hG.out hb2, hb2⟩
      case hstepB =>
        refine ⟨?_, ?_, trivial⟩
        · refine ⟨rfl, fun vs w' hS ρ h1 h2 h3 h4 h5 => ?_⟩
          obtain ⟨hG, hv1, hv2, ho⟩ := hS
          have f24 : ρ (.tmp 24) = .slice (some ⟨g0, 0, none⟩) ths.length c2 := (h4 1 24 (by kernel_rfl) (by kernel_rfl)).trans hv1
          have f25 : ρ (.tmp 25) = .int .i64 (k : Int) := (h4 2 25 (by kernel_rfl) (by kernel_rfl)).trans hv2
          have hG := hid hG
          have HO := hid ho
          clear h4 h5 hv1 hv2 ho
          unfold OpY
          go_simp
          exact ⟨hG.out, by simp [doneV], by simpa [doneV] using HO.out⟩
        · refine ⟨rfl, fun vs w' hS ρ h1 h2 h3 h4 h5 => ?_⟩
          obtain ⟨hG, hv5, ho⟩ := hS
          have f28 : ρ (.tmp 28) = .pointer (some ⟨g0, k, none⟩) := (h4 5 28 (by kernel_rfl) (by kernel_rfl)).trans hv5
          have f27 : ρ (.tmp 27) = vs 4 := h4 4 27 (by kernel_rfl) (by kernel_rfl)
          obtain ⟨p5, c5, e5⟩ := owns_slice ho
          rw [e5] at f27 ho
          have s1 := later hG HD0.out
          have s2 : w'.frozen? ⟨g0, k, none⟩ = false := (HCUR.out.below hG).free k
          have HO := hid ho
          have hG := hid hG
          clear h4 h5 hv5 ho e5
          unfold OpY
          go_simp
          exact ⟨w', _, rfl, hG.out, HO.out⟩
      case hdone =>
        intro vals w' hS
        obtain ⟨w1, v5, hw, hb1, ho5⟩ := hS
        obtain ⟨W2, rfl⟩ : ∃ W2, W2 = w' := ⟨_, rfl⟩
        obtain ⟨q5, c5, rfl⟩ := owns_slice ho5
        have hk0 : ∀ b, b < wo.heap.size → b ≠ g0 → W2.heap[b]? = wo.heap[b]? := fun b hb hne => by
          rw [hw, Below.heap_setCell _ _ _ b (by dsimp only; omega)]
          exact hb1.block b hb
        have hrow0 : W2.ownsRow wI.heap.size 32 1 (.slice (some ⟨g0, 0, none⟩) ths.length c2) ths.length (xs.set k (.slice q5 th.length c5)) := by
          rw [hw]
          exact owns_set (ownsRow_frame HR.out.half.1 fun g hg => hb1.block g (HR.out.half.1.lt g hg).2) HLT.out
        have hs0 : wo.heap.size ≤ W2.heap.size := by rw [hw, size_setCell]; exact hb1.size
        have HJ0 : Hid (SuJ w wI wo ths g0 c2 k th 0 c5 xs 0 (.slice q5 th.length c5) ys W2) := hid (by
          refine ⟨⟨?_, hs0, fun j hj _ => HY2.out j hj, fun j hj h => by omega⟩, hk0, hrow0, ?_⟩
          · rw [hw]
            exact ownsRow_frame ho5 fun g hg => Below.heap_setCell _ _ _ g (by have := (ho5.lt g hg).1; dsimp only; omega)
          · rw [hw]; exact ext_set (ext_trans HR.out.bw hb1) (by have := HG1.out; have := HIS.out; dsimp only; omega) _)
        clear hw hb1 ho5 hk0 hrow0 hs0
        go_wp2_with fail
        go_loopw [31] (fun i wr => ∃ (j : Nat) (ys : List Value), j ≤ th.length ∧ i = .int .i64 j ∧ Hid (SuJ w wI wo ths g0 c2 k th 0 c5 xs j (.slice q5 th.length c5) ys wr)) (fun i _ => th.length - (intOf i).toNat)
        case atStart => exact ⟨0, ys, Nat.zero_le _, rfl, HJ0⟩
        case round =>
          clear HJ0
          obtain ⟨wi, rfl⟩ : ∃ wi, wi = wr := ⟨_, rfl⟩
          obtain ⟨j, zs, hj, rfl, HJ⟩ := hrel
          have hl20 := HOKT.out.1
          have hsw := HJ.out.half.2.1
          have hk0 := HJ.out.keep w.heap.size lw (by have := HG1.out; have := HIS.out; omega)
          have HB0 := hid (blk_keep HR.out.b0 hk0)
          have b4 := HB0.out.cell 4 (v := .slice (some ⟨g0, 0, none⟩) ths.length c2) rfl
          have lb := HB0.out.lt
          by_cases hlj : j < th.length
          · obtain ⟨g0', c0', cur0, hv0, hr1, hr2, hr3, hr4, hr5, hr6⟩ := owns_at HJ.out.row (by have := HLT.out; omega)
            cases hv0
            have r0 := hr3.cell k (hr6 k _ (List.getElem?_set_self (by have := owns_len HR.out.half.1; have := HLT.out; omega)))
            obtain ⟨g1, c1', cur1, hv1, hs1, hs2, hs3, hs4, hs5, hs6⟩ := owns_at HJ.out.half.1 (by omega)
            cases hv1
            obtain ⟨x, hxj, hxt⟩ := HJ.out.half.2.2.1 j hlj (Nat.le_refl _)
            have s0 := hs3.cell j (hs6 j _ hxj)
            have sf := hs3.free j
            obtain ⟨pt2, ct2, hpt, -, hxt2⟩ := HRT.out
            cases hpt
            obtain ⟨q', off', rfl, hrd'⟩ := hxt2 (by intro h; subst h; simp at hlj)
            obtain ⟨vx, f0, htx0⟩ := RdRow.get th hrd' j hlj
            have HTX := hid (htx0.below HJ.out.bw)
            obtain ⟨px, cx, rfl, -, -⟩ := htx0
            have t0 := later HJ.out.bw f0
            have lt0 := lt_of_cell t0
            have hokx := HOKT.out.2 _ (List.getElem_mem hlj)
            obtain ⟨tx, htx⟩ : ∃ tx, th[j]'hlj = tx := ⟨_, rfl⟩
            rw [htx] at HTX t0 hokx
            clear f0 hrd' hxt2
            have HTXE := hid htx
            have HLJ := hid hlj
            have HCT := hid (fun (W : World) (hb : Below wi.heap.size wi W) => tcopy_any (sizeT tx) tx _ _ (Nat.le_refl _) hokx.1 hokx.2 (HTX.out.below hb))
            have i1 : decide ((j : Int) < (th.length : Int)) = true := by rw [decide_eq_true_iff]; omega
            have i1n : decide (j < th.length) = true := decide_eq_true hlj
            have i2 : (0 : Int) ≤ (j : Int) := by omega
            have i2n : (j : Int) < (th.length : Int) := by omega
            have i3 : IntKind.i64.wrap ((j : Int) + 1) = (j : Int) + 1 := IntWalk.i64_in _ (by omega)
            have k2 : (0 : Int) ≤ (k : Int) := by omega
            have k2n : (k : Int) < (ths.length : Int) := by have := HLT.out; omega
            have HB4 := hid b4
            have HR0 := hid r0
            have HS00 := hid s0
            have HS3 := hid hs3
            go_upto_if 30 with fail
            apply wp_region_then 8 (CvV wi.heap.size tx (.pointer (some ⟨w.heap.size, 4, none⟩)) (.slice (some ⟨g0, 0, none⟩) ths.length c2) (.int .i64 (k : Int)) (.pointer (some ⟨g0, k, none⟩)) (.slice (some ⟨g1, 0, none⟩) th.length c5) (.int .i64 (j : Int)) (.slice px tx.length cx)) (fun w' => Below wi.heap.size wi w') (fun w1 w2 => Below w1.heap.size w1 w2) (CvS wi tx (.slice (some ⟨g1, 0, none⟩) th.length c5) (.int .i64 (j : Int)) g1 j)
            focus (intro vals; simp [putAll, dstOf, Act.put, List.getD]; rfl)
            case hm => kernel_rfl
            case hd => kernel_rfl
            case hb => kernel_rfl
            case hng => kernel_rfl
            case hsz => kernel_rfl
            case hN => rfl
            case htail => kernel_rfl
            case hstab => exact fun i x w1 w2 h hb => h.stab hb
            case h0 => exact ext_drew (ext_refl _)
            case hstart => exact fun vs w' hG hV => ⟨hG, hV 4 (by omega), hV 5 (by omega), (hV 7 (by omega)).2⟩
            case hstepA =>
              refine ⟨?_, ?_, ?_, ?_, ?_, ?_, ?_, ?_, trivial⟩
              all_goals (
                refine ⟨(fun g b h => by cases h), fun w' hG hg ρ h1 h2 h3 h4 h5 => ?_⟩
                have hG := hid hG)
              · have f1 : ρ (.tmp 1) = .pointer (some ⟨w.heap.size, 0, none⟩) := h5 1 (by kernel_rfl)
                clear h4 h5
                unfold OpY
                go_simp
                exact ⟨rfl, hG.out, ext_refl _⟩
              · have f36 : ρ (.tmp 36) = .pointer (some ⟨w.heap.size, 4, none⟩) := h4 0 36 (by kernel_rfl) (by kernel_rfl)
                have c4' := later hG.out HB4.out
                clear h4 h5
                unfold OpY
                go_simp
                exact ⟨rfl, hG.out, ext_refl _⟩
              · have f3 : ρ (.tmp 3) = .int .i64 (k : Int) := h5 3 (by kernel_rfl)
                clear h4 h5
                unfold OpY
                go_simp
                exact ⟨rfl, hG.out, ext_refl _⟩
              · have f37 : ρ (.tmp 37) = .slice (some ⟨g0, 0, none⟩) ths.length c2 := h4 1 37 (by kernel_rfl) (by kernel_rfl)
                have f38 : ρ (.tmp 38) = .int .i64 (k : Int) := h4 2 38 (by kernel_rfl) (by kernel_rfl)
                clear h4 h5
                unfold OpY
                go_simp
                exact ⟨rfl, hG.out, ext_refl _⟩
              · have f39 : ρ (.tmp 39) = .pointer (some ⟨g0, k, none⟩) := h4 3 39 (by kernel_rfl) (by kernel_rfl)
                have r0' := later hG.out HR0.out
                clear h4 h5
                unfold OpY
                go_simp
                exact ⟨rfl, hG.out, ext_refl _⟩
              · have f5 : ρ (.tmp 5) = .int .i64 (j : Int) := h5 5 (by kernel_rfl)
                clear h4 h5
                unfold OpY
                go_simp
                exact ⟨rfl, hG.out, ext_refl _⟩
              · have f6 : ρ (.tmp 6) = .slice px tx.length cx := h5 6 (by kernel_rfl)
                clear h4 h5
                unfold OpY
                go_simp
                exact ⟨rfl, hG.out, ext_refl _⟩
              · have f42 : ρ (.tmp 42) = .slice px tx.length cx := h4 6 42 (by kernel_rfl) (by kernel_rfl)
                clear h4 h5
                unfold OpY
                go_simp
                unfold OpR
                refine (HCT.out _ hG.out).mono ?_
                rintro e' w2 ⟨v7, rfl, hb2, hcp⟩
                exact ⟨_, rfl, ⟨(ext_trans hG.out hb2).size, fun w'' h => (hcp w'' (h.sub hG.out.size (Nat.le_refl _))).lo hG.out.size⟩, ext_trans hG.out hb2, hb2⟩
            case hstepB =>
              refine ⟨?_, ?_, trivial⟩
              · refine ⟨rfl, fun vs w' hS ρ h1 h2 h3 h4 h5 => ?_⟩
                obtain ⟨hG, hv4, hv5, ho⟩ := hS
                have f40 : ρ (.tmp 40) = .slice (some ⟨g1, 0, none⟩) th.length c5 := (h4 4 40 (by kernel_rfl) (by kernel_rfl)).trans hv4
                have f41 : ρ (.tmp 41) = .int .i64 (j : Int) := (h4 5 41 (by kernel_rfl) (by kernel_rfl)).trans hv5
                have hG := hid hG
                have HO := hid ho
                clear h4 h5 hv4 hv5 ho
                unfold OpY
                go_simp
                exact ⟨hG.out, by simp [doneV], by simpa [doneV] using HO.out⟩
              · refine ⟨rfl, fun vs w' hS ρ h1 h2 h3 h4 h5 => ?_⟩
                obtain ⟨hG, hv8, ho⟩ := hS
                have f44 : ρ (.tmp 44) = .pointer (some ⟨g1, j, none⟩) := (h4 8 44 (by kernel_rfl) (by kernel_rfl)).trans hv8
                have f43 : ρ (.tmp 43) = vs 7 := h4 7 43 (by kernel_rfl) (by kernel_rfl)
                obtain ⟨p7, c7, e7, -, -⟩ := (ho w' (Agree.refl _ _ _)).1
                rw [e7] at f43 ho
                have s1 := later hG HS00.out
                have s2 : w'.frozen? ⟨g1, j, none⟩ = false := (HS3.out.below hG).free j
                have HO := hid ho
                have hG := hid hG
                clear h4 h5 hv8 ho e7
                unfold OpY
                go_simp
                exact ⟨w', _, _, rfl, hG.out, HO.out⟩
            case hdone =>
              intro vals w' hS
              obtain ⟨w2, p7, c7, hw, hb2, ho⟩ := hS
              obtain ⟨W3, rfl⟩ : ∃ W3, W3 = w' := ⟨_, rfl⟩
              have HJ1 : Hid (SuJ w wI wo ths g0 c2 k th 0 c5 xs (j + 1) (.slice (some ⟨g1, 0, none⟩) th.length c5) (zs.set j (.slice p7 tx.length c7)) W3) := hid (by
                have hH := HJ.out.half
                have hgw := hH.1.lt g1 rfl
                have hws := hH.2.1
                have hneq : g1 ≠ g0 := by have := HR.out.half.1.lt g0 rfl; omega
                refine ⟨HalfG.step hH HLJ.out (fun b hb hne => ?_) ?_ ?_ (fun w'' h => ?_), fun b hb hne => ?_, ?_, ?_⟩
                · rw [hw, Below.heap_setCell _ _ _ b (fun he => hne (by simp [Value.ownBlock]; exact he.symm))]
                  exact hb2.block b hb
                · rw [hw, size_setCell]; exact hb2.size
                · rw [hw]
                  exact owns_set (ownsRow_frame hH.1 fun g hg => hb2.block g (hH.1.lt g hg).2) HLJ.out
                · rw [HTXE.out]
                  refine (ho w'' (Agree.trans (fun b hb1 hb2' => ?_) (h.sub (Nat.le_refl _) (by rw [hw, size_setCell]; exact Nat.le_refl _)))).lo ?_
                  · rw [hw, Below.heap_setCell _ _ _ b (by dsimp only; omega)]
                  · exact HJ.out.bw.size
                · rw [hw, Below.heap_setCell _ _ _ b (by dsimp only; omega), hb2.block b (by omega)]
                  exact HJ.out.keep b hb hne
                · rw [hw]
                  refine ownsRow_frame HJ.out.row fun g hg => ?_
                  obtain rfl := Option.some.inj hg
                  rw [Below.heap_setCell _ _ _ _ (by dsimp only; omega)]
                  exact hb2.block _ (HJ.out.row.lt _ rfl).2
                · rw [hw]; exact ext_set (ext_trans HJ.out.bw hb2) (by have := HR.out.bw.size; dsimp only; omega) _)
              clear hw hb2 ho
              go_wp2_with fail
              go_roundw
              case rel => exact ⟨j + 1, _, HLJ.out, by go_num, HJ1⟩
              case measure => have := HLJ.out; simp [intOf]; omega
          · obtain rfl : j = th.length := by omega
            have i1 : decide ((th.length : Int) < (th.length : Int)) = false := by rw [decide_eq_false_iff_not]; omega
            have i1n : decide (th.length < th.length) = false := by simp
            have HRN : Hid (SuI w wI st ck tr ths (.slice p1 is.length c1) (.slice (some ⟨g0, 0, none⟩) ths.length c2) (k + 1) (xs.set k (.slice q5 th.length c5)) wi) := hid (by
              have hH := HJ.out.half
              have hlo := HR.out.half.1.lt g0 rfl
              have hsz := HR.out.sz
              refine ⟨HalfG.step HR.out.half HLT.out (fun b hb hne => HJ.out.keep b hb (fun he => hne (by rw [he]; rfl))) hH.2.1 HJ.out.row (fun w'' h => by rw [HTH.out]; exact rdThO_of hlt' HR.out.bw.size hH.row w'' h), HB0.out, ?_, HJ.out.bw, ?_, hsz⟩
              · exact blk_keep HR.out.b1 (HJ.out.keep _ (by have := HR.out.b1.lt; exact this) (by omega))
              · exact HR.out.ag.trans (fun b hb1 hb2 => HJ.out.keep b (by omega) (by omega)))
            go_wp2_with fail
            go_roundw
            case rel => exact ⟨k + 1, _, HLT.out, by go_num, HRN⟩
            case measure => have := HLT.out; simp [intOf]; omega
    · obtain rfl : k = ths.length := by omega
      have j1 : decide ((ths.length : Int) < (ths.length : Int)) = false := by rw [decide_eq_false_iff_not]; omega
      have j1n : decide (ths.length < ths.length) = false := by simp
      have hB1 := HR.out.b1
      have hB2 := HR.out.b0
      have q0 := hB2.cell 0 (v := .int .i64 st) rfl
      have q1 := hB2.cell 1 (v := .int .i64 ck) rfl
      have q2 := hB2.cell 2 (v := .int .i64 tr) rfl
      have q3 := hB2.cell 3 (v := .slice p1 is.length c1) rfl
      have q4 := hB2.cell 4 (v := .slice p2 ths.length c2) rfl
      have r0 := hB1.cell 0 rfl
      have r1 := hB1.cell 1 rfl
      have r2 := hB1.cell 2 rfl
      have r3 := hB1.cell 3 rfl
      have r4 := hB1.cell 4 rfl
      have rf := fun o => hB1.free o
      have hfin := ((((hB1.set 0 (.int .i64 st)).set 1 (.int .i64 ck)).set 2 (.int .i64 tr)).set 3 (.slice p1 is.length c1)).set 4 (.slice p2 ths.length c2)
      have t0 := hfin.cell 0 (v := .int .i64 st) (by simp)
      have t1 := hfin.cell 1 (v := .int .i64 ck) (by simp)
      have t2 := hfin.cell 2 (v := .int .i64 tr) (by simp)
      have t3 := hfin.cell 3 (v := .slice p1 is.length c1) (by simp)
      have t4 := hfin.cell 4 (v := .slice p2 ths.length c2) (by simp)
      have lb1 := hB1.lt
      have lb2 := hB2.lt
      have HEND : Hid (SCopyO st ck tr is ths w (.returned (.agg #[.int .i64 st, .int .i64 ck, .int .i64 tr, .slice p1 is.length c1, .slice p2 ths.length c2])) (((((wo.setCell ⟨w.heap.size + 1, 0, none⟩ (.int .i64 st)).setCell ⟨w.heap.size + 1, 1, none⟩ (.int .i64 ck)).setCell ⟨w.heap.size + 1, 2, none⟩ (.int .i64 tr)).setCell ⟨w.heap.size + 1, 3, none⟩ (.slice p1 is.length c1)).setCell ⟨w.heap.size + 1, 4, none⟩ (.slice p2 ths.length c2))) := hid (by
        have hsz := HR.out.sz
        have hag : ∀ hi, Agree (w.heap.size + 2) hi wo (((((wo.setCell ⟨w.heap.size + 1, 0, none⟩ (.int .i64 st)).setCell ⟨w.heap.size + 1, 1, none⟩ (.int .i64 ck)).setCell ⟨w.heap.size + 1, 2, none⟩ (.int .i64 tr)).setCell ⟨w.heap.size + 1, 3, none⟩ (.slice p1 is.length c1)).setCell ⟨w.heap.size + 1, 4, none⟩ (.slice p2 ths.length c2)) := fun hi => ((((Agree.set _ _ (by dsimp only; omega)).trans (Agree.set _ _ (by dsimp only; omega))).trans (Agree.set _ _ (by dsimp only; omega))).trans (Agree.set _ _ (by dsimp only; omega))).trans (Agree.set _ _ (by dsimp only; omega))
        refine ⟨_, wI.heap.size, _, xs, rfl, ext_set (ext_set (ext_set (ext_set (ext_set HR.out.bw (by dsimp only; omega) _) (by dsimp only; omega) _) (by dsimp only; omega) _) (by dsimp only; omega) _) (by dsimp only; omega) _, by omega, rowG_agree HR.out.half.row ((hag _).sub (by omega) (Nat.le_refl _)) (by simp [size_setCell]), ?_, fun g hg => (HOWN1.out.lt g hg).2⟩
        refine ownsRow_base (ownsRow_frame HOWN1.out fun g hg => ?_) (by have := HAS.out; omega)
        have hlg := HOWN1.out.lt g hg
        have := HAS.out
        exact (HR.out.ag.trans (hag _)) g (by omega) hlg.2)
      clear hfin
      go_wp2_with fail
      exact bodyPost_ret (v := .agg #[.int .i64 st, .int .i64 ck, .int .i64 tr, .slice p1 is.length c1, .slice p2 ths.length c2]) (by simp [results, Try.results11, go_sem, t0, t1, t2, t3, t4]) rfl HEND.out
end Go.Proofs.Ytoeegiaajngpeaa
