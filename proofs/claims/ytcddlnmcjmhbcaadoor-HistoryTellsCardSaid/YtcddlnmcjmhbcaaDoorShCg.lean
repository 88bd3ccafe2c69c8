/-
  The checker; walks: Next.
-/
import Derived.Test.YtcddlnmcjmhbcaaDoorShCx
import Derived.Shelf.Abstract
namespace Go.Proofs.YtcddlnmcjmhbcaaDoor
set_option linter.unusedVariables false
set_option linter.unusedSimpArgs false
open Go Go.RowKit
theorem doesS_len {s s' : Sh} {t : Th} {e : Ev} (h : doesS s t e = some s') : s'.ths.length = s.ths.length := by
  unfold doesS at h
  by_cases k1 : e.kind = 1
  · rw [if_pos k1] at h
    unfold beginS at h; split at h
    · cases h; simp [Sh.setTh, Sh.setSt]
    · cases h
  rw [if_neg k1] at h
  by_cases k2 : e.kind = 2
  · rw [if_pos k2] at h
    unfold lookS at h; split at h
    · cases h; simp [Sh.setTh, Sh.setSt]
    · cases h
  rw [if_neg k2] at h
  by_cases k3 : e.kind = 3
  · rw [if_pos k3] at h
    unfold loadS at h; split at h
    · cases h; simp [Sh.setTh, Sh.setSt]
    · cases h
  rw [if_neg k3] at h
  by_cases k4 : e.kind = 4
  · rw [if_pos k4] at h
    unfold lockS at h; split at h
    · cases h; simp [Sh.setTh, Sh.setSt]
    · cases h
  rw [if_neg k4] at h
  by_cases k5 : e.kind = 5
  · rw [if_pos k5] at h
    unfold bumpS at h; split at h
    · cases h; simp [Sh.setTh, Sh.setSt]
    · cases h
  rw [if_neg k5] at h
  by_cases k6 : e.kind = 6
  · rw [if_pos k6] at h
    unfold checkS at h; split at h
    · cases h; simp [Sh.setTh, Sh.setSt]
    · cases h
  rw [if_neg k6] at h
  by_cases k7 : e.kind = 7
  · rw [if_pos k7] at h
    unfold commitS at h; split at h
    · cases h; simp [Sh.setTh]
    · split at h
      · cases h; simp [Sh.setTh]
      · cases h
  rw [if_neg k7] at h
  by_cases k8 : e.kind = 8
  · rw [if_pos k8] at h
    unfold storeS at h; split at h
    · cases h; simp [Sh.setTh, Sh.setSt]
    · cases h
  rw [if_neg k8] at h
  by_cases k9 : e.kind = 9
  · rw [if_pos k9] at h
    unfold freedS at h; split at h
    · cases h; simp [Sh.setTh, Sh.setSt]
    · cases h
  rw [if_neg k9] at h
  by_cases k10 : e.kind = 10
  · rw [if_pos k10] at h
    unfold abortS at h; split at h
    · cases h; simp [Sh.setTh, Sh.setSt]
    · cases h
  rw [if_neg k10] at h
  by_cases k11 : e.kind = 11
  · rw [if_pos k11] at h
    unfold undoS at h; split at h
    · cases h; simp [Sh.setTh, Sh.setSt]
    · cases h
  rw [if_neg k11] at h
  by_cases k12 : e.kind = 12
  · rw [if_pos k12] at h
    unfold waitS at h; split at h
    · cases h; simp [Sh.setTh, Sh.setSt]
    · cases h
  rw [if_neg k12] at h
  unfold wakeS at h; split at h
  · cases h; simp [Sh.setTh, Sh.setSt]
  · cases h
section
variable {w : World} {c tb sb : Nat} {s : Sh} {ev : Nat}
theorem next_any (h : CkAt w c tb sb s ev) (hw : Wf s) (hcm : ∀ i, i < s.ths.length → (s.ths.getD i Th.zero).commits ≤ 1048576) (hK : KindsAt w) (hT : TabOk w) (hev : ev < 1048576) (e : Ev) (he : EvOk e) (hm : mayE e s.ths.length s.vars s.sts.length = true) :
    Calls Tryd.prog 22 #[.pointer (some ⟨c, 0, none⟩), evA e] w (NextP w c tb sb s ev (stepS s e)) := by
  have hst : stepS s e = doesS s (s.th e.th) e := by unfold stepS; exact if_pos hm
  rw [hst]
  obtain ⟨hk, hth, htx, hv, hat, hS⟩ := mayE_of hm
  obtain ⟨kind, th, tx, at_, v, x, why⟩ := e
  obtain ⟨i, rfl⟩ := Int.eq_ofNat_of_zero_le hth.1
  obtain ⟨a, rfl⟩ := Int.eq_ofNat_of_zero_le hat.1
  dsimp only at hk hth htx hv hat
  have hi : i < s.ths.length := by omega
  have ht := hw.th i hi
  have hT0 : s.th (i : Int) = s.ths.getD i Th.zero := rfl
  dsimp only
  rw [hT0]
  have hc := hcm i hi
  have hlen : ∀ r, doesS s (s.ths.getD i Th.zero) ⟨kind, i, tx, a, v, x, why⟩ = r → ∀ s', r = some s' → s'.ths.length = s.ths.length := by
    intro r hr s' hs; rw [hs] at hr; exact doesS_len hr
  obtain ⟨t, het⟩ : ∃ t, s.ths.getD i Th.zero = t := ⟨_, rfl⟩
  rw [het] at ht hc hlen ⊢
  obtain ⟨q, hq⟩ := Int.eq_ofNat_of_zero_le ht.st.1
  have hsn : s.n = s.sts.length := rfl
  have hqn : q < s.sts.length := by have := ht.st.2; omega
  have hsz := hw.size
  have haS : kind ≠ 3 → kind ≠ 8 → a < s.sts.length := by
    intro h3 h8
    have := places_S (e := ⟨kind, i, tx, a, v, x, why⟩) (V := s.vars) (S := s.sts.length) h3 h8 (by omega)
    omega
  have hrv := ht.rvb
  have hclk := hw.clk
  have C : ∀ {W : World}, Below w.heap.size w W → CkAt W c tb sb s ev := fun hW => CkR.below h hW
  have hkc : kind = 1 ∨ kind = 2 ∨ kind = 3 ∨ kind = 4 ∨ kind = 5 ∨ kind = 6 ∨ kind = 7 ∨ kind = 8 ∨ kind = 9 ∨ kind = 10 ∨ kind = 11 ∨ kind = 12 ∨ kind = 13 := by omega
  rcases hkc with rfl | rfl | rfl | rfl | rfl | rfl | rfl | rfl | rfl | rfl | rfl | rfl | rfl
  · exact next_gen 1 41 (by decide) (enters_of Tryd.func41 (by kernel_rfl) rfl) rfl h hK hev i hi tx a v x why he hm _ (hlen _ rfl) (hid fun W hW => begin_any (C hW) i hi het 1 tx a v x why)
  · exact next_gen 2 42 (by decide) (enters_of Tryd.func42 (by kernel_rfl) rfl) rfl h hK hev i hi tx a v x why he hm _ (hlen _ rfl) (hid fun W hW => look_any (C hW) i hi het a (haS (by decide) (by decide)) 2 tx v x why)
  · exact next_gen 3 43 (by decide) (enters_of Tryd.func43 (by kernel_rfl) rfl) rfl h hK hev i hi tx a v x why he hm _ (hlen _ rfl) (hid fun W hW => load_any (C hW) i hi het ht.m1 q hq hqn (by omega) a 3 tx v x why)
  · exact next_gen 4 44 (by decide) (enters_of Tryd.func44 (by kernel_rfl) rfl) rfl h hK hev i hi tx a v x why he hm _ (hlen _ rfl) (hid fun W hW => lock_any (C hW) i hi het ht.m2 a (haS (by decide) (by decide)) (by have := haS (by decide) (by decide); omega) 4 tx v x why)
  · exact next_gen 5 45 (by decide) (enters_of Tryd.func45 (by kernel_rfl) rfl) rfl h hK hev i hi tx a v x why he hm _ (hlen _ rfl) (hid fun W hW => bump_any (C hW) i hi het (by omega) 5 tx a v x why)
  · exact next_gen 6 46 (by decide) (enters_of Tryd.func46 (by kernel_rfl) rfl) rfl h hK hev i hi tx a v x why he hm _ (hlen _ rfl) (hid fun W hW => checked_any (C hW) (hT.below hW) i hi het ht.m4 a (haS (by decide) (by decide)) (by have := haS (by decide) (by decide); omega) 6 tx v x why)
  · exact next_gen 7 47 (by decide) (enters_of Tryd.func47 (by kernel_rfl) rfl) rfl h hK hev i hi tx a v x why he hm _ (hlen _ rfl) (hid fun W hW => commit_any (C hW) i hi het (by have := ht.com; omega) 7 tx a v x why)
  · exact next_gen 8 48 (by decide) (enters_of Tryd.func48 (by kernel_rfl) rfl) rfl h hK hev i hi tx a v x why he hm _ (hlen _ rfl) (hid fun W hW => store_any (C hW) i hi het ht.m2 ht.m3 a ((a : Int) % (s.sts.length : Int)).toNat (by omega) (by omega) (by have := mod_in (a := (a : Int)) (n := (s.sts.length : Int)) (by omega); omega) 8 tx v x why)
  · exact next_gen 9 49 (by decide) (enters_of Tryd.func49 (by kernel_rfl) rfl) rfl h hK hev i hi tx a v x why he hm _ (hlen _ rfl) (hid fun W hW => freed_any (C hW) (hT.below hW) i hi het ht.m2 (by have := ht.com; omega) a (haS (by decide) (by decide)) (by have := haS (by decide) (by decide); omega) 9 tx v x why)
  · have hy : 1 ≤ why ∧ why ≤ 6 := by
      unfold mayE at hm
      simp only [Bool.and_eq_true, decide_eq_true_eq] at hm
      exact hm.1.2.2.2.1 trivial
    exact next_gen 10 50 (by decide) (enters_of Tryd.func50 (by kernel_rfl) rfl) rfl h hK hev i hi tx a v x why he hm _ (hlen _ rfl) (hid fun W hW => abort_any (C hW) (hT.below hW) i hi het ht.m4 q hq hqn a (haS (by decide) (by decide)) 10 tx v x why hy)
  · exact next_gen 11 51 (by decide) (enters_of Tryd.func51 (by kernel_rfl) rfl) rfl h hK hev i hi tx a v x why he hm _ (hlen _ rfl) (hid fun W hW => undo_any (C hW) (hT.below hW) i hi het ht.m2 a (haS (by decide) (by decide)) (by have := haS (by decide) (by decide); omega) 11 tx v x why)
  · exact next_gen 12 52 (by decide) (enters_of Tryd.func52 (by kernel_rfl) rfl) rfl h hK hev i hi tx a v x why he hm _ (hlen _ rfl) (hid fun W hW => wait_any (C hW) i hi het 12 tx a v x why)
  · exact next_gen 13 53 (by decide) (enters_of Tryd.func53 (by kernel_rfl) rfl) rfl h hK hev i hi tx a v x why he hm _ (hlen _ rfl) (hid fun W hW => wake_any (C hW) i hi het ht.m1 (by omega) 13 tx a v x why)

set_option maxRecDepth 100000 in
set_option maxHeartbeats 4000000 in
theorem next_bad' (h : CkAt w c tb sb s ev) (hK : KindsAt w) (hev : ev < 1048576) (kind th tx at_ v x why : Int) (he : EvOk ⟨kind, th, tx, at_, v, x, why⟩) (hm : mayE ⟨kind, th, tx, at_, v, x, why⟩ s.ths.length s.vars s.sts.length = false) :
    Calls Tryd.prog 22 #[.pointer (some ⟨c, 0, none⟩), .agg #[.int .u8 kind, .int .i64 th, .int .i64 tx, .int .i64 at_, .int .i64 v, .int .i64 x, .int .u8 why]] w (NextP w c tb sb s ev none) := by
  obtain ⟨c0, c1, c2, c3, c4⟩ := h.cells
  have hcl := lt_of_cell c0
  have HH := hid h
  have g1 : (ev : Int) < 1048576 := by omega
  have g2 : (0 : Int) ≤ (ev : Int) := by omega
  have g3 : decide ((1048576 : Int) ≤ (ev : Int)) = false := by rw [decide_eq_false_iff_not]; omega
  have hmay := fun W (hW : Below w.heap.size w W) => may_any ⟨kind, th, tx, at_, v, x, why⟩ s.ths.length s.vars s.sts.length W he (hK.below hW)
  rw [hm] at hmay
  dsimp only [evA] at hmay
  have HMAY := hid hmay
  clear hmay
  clear h hK he hm hev
  go_enter Tryd.func22, Tryd.ntmps22
  go_wp2_with fail
  have b0 := (Blk.new w #[.int .u8 kind, .int .i64 th, .int .i64 tx, .int .i64 at_, .int .i64 v, .int .i64 x, .int .u8 why] 49)
  apply wp_region_vals' [.agg #[.int .u8 kind, .int .i64 th, .int .i64 tx, .int .i64 at_, .int .i64 v, .int .i64 x, .int .u8 why], .pointer (some ⟨c, 0, none⟩), .pointer (some ⟨c, 0, none⟩), .pointer (some ⟨c, 3, none⟩), .slice (some ⟨tb, 0, none⟩) s.ths.length s.ths.length, .int .i64 (s.ths.length : Int), .pointer (some ⟨c, 0, none⟩), .pointer (some ⟨c, 0, none⟩), .pointer (some ⟨c, 0, none⟩), .int .i64 s.vars, .pointer (some ⟨c, 0, none⟩), .pointer (some ⟨c, 0, none⟩), .pointer (some ⟨c, 4, none⟩), .slice (some ⟨sb, 0, none⟩) s.sts.length s.sts.length, .int .i64 (s.sts.length : Int), .bool false, .bool true, .bool true] (fun w' => Below (w.alloc (.cells #[.int .u8 kind, .int .i64 th, .int .i64 tx, .int .i64 at_, .int .i64 v, .int .i64 x, .int .u8 why] 49)).heap.size (w.alloc (.cells #[.int .u8 kind, .int .i64 th, .int .i64 tx, .int .i64 at_, .int .i64 v, .int .i64 x, .int .u8 why] 49)) w')
  focus (simp [putAll, dstOf, Act.put, List.getD]; rfl)
  case hm => kernel_rfl
  case hd => kernel_rfl
  case hb => kernel_rfl
  case hdep => kernel_rfl
  case hsel => kernel_rfl
  case hsz => kernel_rfl
  case h0 => exact ext_drew (ext_refl _)
  case hstep =>
    repeat' (first | exact trivial | (refine And.intro ?_ ?_))
    all_goals (
      intro w' hG
      rw [if_pos (by kernel_rfl)]
      intro K Qp hK
      have d0 := later hG (cell_alloc c0)
      have d3 := later hG (cell_alloc c3)
      have d4 := later hG (cell_alloc c4)
      have d20 := later hG (b0.cell 0 rfl)
      have d21 := later hG (b0.cell 1 rfl)
      have d22 := later hG (b0.cell 2 rfl)
      have d23 := later hG (b0.cell 3 rfl)
      have d24 := later hG (b0.cell 4 rfl)
      have d25 := later hG (b0.cell 5 rfl)
      have d26 := later hG (b0.cell 6 rfl)
      have hb0 : Below w.heap.size w w' := ext_trans (ext_alloc (ext_refl _) _) hG
      have HB0 := hid hb0
      have HGG := hid hG
      clear hb0 hG c0 c1 c2 c3 c4 b0
      go_simp
      first
      | exact hK _ HGG.out
      | (go_wp2_with ((with_reducible refine (HMAY.out _ HB0.out).mono ?_); rintro e' w1 ⟨rfl, hb1⟩)
         first | (with_reducible exact HGG.out) | exact ext_trans HGG.out hb1 | exact hK _ HGG.out | exact hK _ (ext_trans HGG.out hb1)))
  case hdone =>
    intro w' hG
    have hb : Below w.heap.size w w' := ext_trans (ext_alloc (ext_refl _) _) hG
    have HB := hid hb
    clear hb hG c0 c1 c2 c3 c4 b0
    go_wp2_with fail
    go_ret
    exact Or.inr ⟨rfl, rfl, CkR.below HH.out HB.out, Turn.of_below HB.out⟩
theorem next_all (h : CkAt w c tb sb s ev) (hw : Wf s) (hcm : ∀ i, i < s.ths.length → (s.ths.getD i Th.zero).commits ≤ 1048576) (hK : KindsAt w) (hT : TabOk w) (hev : ev < 1048576) (e : Ev) (he : EvOk e) :
    Calls Tryd.prog 22 #[.pointer (some ⟨c, 0, none⟩), evA e] w (NextP w c tb sb s ev (stepS s e)) := by
  cases hm : mayE e s.ths.length s.vars s.sts.length with
  | true => exact next_any h hw hcm hK hT hev e he hm
  | false =>
    have : stepS s e = none := by unfold stepS; have hn : s.n = s.sts.length := rfl; rw [hn, hm]; rfl
    rw [this]
    exact next_bad' h hK hev e.kind e.th e.tx e.at_ e.v e.x e.why he hm
end
end Go.Proofs.YtcddlnmcjmhbcaaDoor
