/-
  Joined texts: ShCg ShV ShVc.
-/
import Derived.Test.YtnblhodhkifeeaaGreatDoorShCc
import Derived.Test.YtnblhodhkifeeaaGreatDoorShCe
import Derived.Test.YtnblhodhkifeeaaGreatDoorShCf
import Derived.Test.YtnblhodhkifeeaaGreatDoorTrGT
import Derived.Test.YtnblhodhkifeeaaGreatDoorTrGP
import Derived.Test.YtnblhodhkifeeaaGreatDoorShE
import Derived.Test.YtnblhodhkifeeaaGreatDoorTrGS
/-
  The checker; walks: Next.
-/
namespace Go.Proofs.YtnblhodhkifeeaaGreatDoor
set_option linter.unusedVariables false
set_option linter.unusedSimpArgs false
open Go Go.RowKit
theorem doesS_len {s s' : Sh} {t : Th} {e : Ev} (h : doesS s t e = some s') : s'.ths.length = s.ths.length := by
  unfold doesS at h
  by_cases k1 : e.kind = 1
  · rw [if_pos k1] at h
    unfold beginS at h; split at h
    · cases h; simp [Sh.setTh, Sh.setSt]
    · cases h
  rw [if_neg k1] at h
  by_cases k2 : e.kind = 2
  · rw [if_pos k2] at h
    unfold lookS at h; split at h
    · cases h; simp [Sh.setTh, Sh.setSt]
    · cases h
  rw [if_neg k2] at h
  by_cases k3 : e.kind = 3
  · rw [if_pos k3] at h
    unfold loadS at h; split at h
    · cases h; simp [Sh.setTh, Sh.setSt]
    · cases h
  rw [if_neg k3] at h
  by_cases k4 : e.kind = 4
  · rw [if_pos k4] at h
    unfold lockS at h; split at h
    · cases h; simp [Sh.setTh, Sh.setSt]
    · cases h
  rw [if_neg k4] at h
  by_cases k5 : e.kind = 5
  · rw [if_pos k5] at h
    unfold bumpS at h; split at h
    · cases h; simp [Sh.setTh, Sh.setSt]
    · cases h
  rw [if_neg k5] at h
  by_cases k6 : e.kind = 6
  · rw [if_pos k6] at h
    unfold checkS at h; split at h
    · cases h; simp [Sh.setTh, Sh.setSt]
    · cases h
  rw [if_neg k6] at h
  by_cases k7 : e.kind = 7
  · rw [if_pos k7] at h
    unfold commitS at h; split at h
    · cases h; simp [Sh.setTh]
    · split at h
      · cases h; simp [Sh.setTh]
      · cases h
  rw [if_neg k7] at h
  by_cases k8 : e.kind = 8
  · rw [if_pos k8] at h
    unfold storeS at h; split at h
    · cases h; simp [Sh.setTh, Sh.setSt]
    · cases h
  rw [if_neg k8] at h
  by_cases k9 : e.kind = 9
  · rw [if_pos k9] at h
    unfold freedS at h; split at h
    · cases h; simp [Sh.setTh, Sh.setSt]
    · cases h
  rw [if_neg k9] at h
  by_cases k10 : e.kind = 10
  · rw [if_pos k10] at h
    unfold abortS at h; split at h
    · cases h; simp [Sh.setTh, Sh.setSt]
    · cases h
  rw [if_neg k10] at h
  by_cases k11 : e.kind = 11
  · rw [if_pos k11] at h
    unfold undoS at h; split at h
    · cases h; simp [Sh.setTh, Sh.setSt]
    · cases h
  rw [if_neg k11] at h
  by_cases k12 : e.kind = 12
  · rw [if_pos k12] at h
    unfold waitS at h; split at h
    · cases h; simp [Sh.setTh, Sh.setSt]
    · cases h
  rw [if_neg k12] at h
  unfold wakeS at h; split at h
  · cases h; simp [Sh.setTh, Sh.setSt]
  · cases h
section
variable {w : World} {c tb sb : Nat} {s : Sh} {ev : Nat}
theorem next_any (h : CkAt w c tb sb s ev) (hw : Wf s) (hcm : ∀ i, i < s.ths.length → (s.ths.getD i Th.zero).commits ≤ 1048576) (hK : KindsAt w) (hT : TabOk w) (hev : ev < 1048576) (e : Ev) (he : EvOk e) (hm : mayE e s.ths.length s.vars s.sts.length = true) :
    Calls Tryz.prog 38 #[.pointer (some ⟨c, 0, none⟩), evA e] w (NextP w c tb sb s ev (stepS s e)) := by
  have hst : stepS s e = doesS s (s.th e.th) e := by unfold stepS; exact if_pos hm
  rw [hst]
  obtain ⟨hk, hth, htx, hv, hat, hS⟩ := mayE_of hm
  obtain ⟨kind, th, tx, at_, v, x, why⟩ := e
  obtain ⟨i, rfl⟩ := Int.eq_ofNat_of_zero_le hth.1
  obtain ⟨a, rfl⟩ := Int.eq_ofNat_of_zero_le hat.1
  dsimp only at hk hth htx hv hat
  have hi : i < s.ths.length := by omega
  have ht := hw.th i hi
  have hT0 : s.th (i : Int) = s.ths.getD i Th.zero := rfl
  dsimp only
  rw [hT0]
  have hc := hcm i hi
  have hlen : ∀ r, doesS s (s.ths.getD i Th.zero) ⟨kind, i, tx, a, v, x, why⟩ = r → ∀ s', r = some s' → s'.ths.length = s.ths.length := by
    intro r hr s' hs; rw [hs] at hr; exact doesS_len hr
  obtain ⟨t, het⟩ : ∃ t, s.ths.getD i Th.zero = t := ⟨_, rfl⟩
  rw [het] at ht hc hlen ⊢
  obtain ⟨q, hq⟩ := Int.eq_ofNat_of_zero_le ht.st.1
  have hsn : s.n = s.sts.length := rfl
  have hqn : q < s.sts.length := by have := ht.st.2; omega
  have hsz := hw.size
  have haS : kind ≠ 3 → kind ≠ 8 → a < s.sts.length := by
    intro h3 h8
    have := places_S (e := ⟨kind, i, tx, a, v, x, why⟩) (V := s.vars) (S := s.sts.length) h3 h8 (by omega)
    omega
  have hrv := ht.rvb
  have hclk := hw.clk
  have C : ∀ {W : World}, Below w.heap.size w W → CkAt W c tb sb s ev := fun hW => CkR.below h hW
  have hkc : kind = 1 ∨ kind = 2 ∨ kind = 3 ∨ kind = 4 ∨ kind = 5 ∨ kind = 6 ∨ kind = 7 ∨ kind = 8 ∨ kind = 9 ∨ kind = 10 ∨ kind = 11 ∨ kind = 12 ∨ kind = 13 := by omega
  rcases hkc with rfl | rfl | rfl | rfl | rfl | rfl | rfl | rfl | rfl | rfl | rfl | rfl | rfl
  · exact next_1 h hK hev i hi tx a v x why he hm _ (hlen _ rfl) (hid fun W hW => begin_any (C hW) i hi het 1 tx a v x why)
  · exact next_2 h hK hev i hi tx a v x why he hm _ (hlen _ rfl) (hid fun W hW => look_any (C hW) i hi het a (haS (by decide) (by decide)) 2 tx v x why)
  · exact next_3 h hK hev i hi tx a v x why he hm _ (hlen _ rfl) (hid fun W hW => load_any (C hW) i hi het ht.m1 q hq hqn (by omega) a 3 tx v x why)
  · exact next_4 h hK hev i hi tx a v x why he hm _ (hlen _ rfl) (hid fun W hW => lock_any (C hW) i hi het ht.m2 a (haS (by decide) (by decide)) (by have := haS (by decide) (by decide); omega) 4 tx v x why)
  · exact next_5 h hK hev i hi tx a v x why he hm _ (hlen _ rfl) (hid fun W hW => bump_any (C hW) i hi het (by omega) 5 tx a v x why)
  · exact next_6 h hK hev i hi tx a v x why he hm _ (hlen _ rfl) (hid fun W hW => checked_any (C hW) (hT.below hW) i hi het ht.m4 a (haS (by decide) (by decide)) (by have := haS (by decide) (by decide); omega) 6 tx v x why)
  · exact next_7 h hK hev i hi tx a v x why he hm _ (hlen _ rfl) (hid fun W hW => commit_any (C hW) i hi het (by have := ht.com; omega) 7 tx a v x why)
  · exact next_8 h hK hev i hi tx a v x why he hm _ (hlen _ rfl) (hid fun W hW => store_any (C hW) i hi het ht.m2 ht.m3 a ((a : Int) % (s.sts.length : Int)).toNat (by omega) (by omega) (by have := mod_in (a := (a : Int)) (n := (s.sts.length : Int)) (by omega); omega) 8 tx v x why)
  · exact next_9 h hK hev i hi tx a v x why he hm _ (hlen _ rfl) (hid fun W hW => freed_any (C hW) (hT.below hW) i hi het ht.m2 (by have := ht.com; omega) a (haS (by decide) (by decide)) (by have := haS (by decide) (by decide); omega) 9 tx v x why)
  · have hy : 1 ≤ why ∧ why ≤ 6 := by
      unfold mayE at hm
      simp only [Bool.and_eq_true, decide_eq_true_eq] at hm
      exact hm.1.2.2.2.1 trivial
    exact next_10 h hK hev i hi tx a v x why he hm _ (hlen _ rfl) (hid fun W hW => abort_any (C hW) (hT.below hW) i hi het ht.m4 q hq hqn a (haS (by decide) (by decide)) 10 tx v x why hy)
  · exact next_11 h hK hev i hi tx a v x why he hm _ (hlen _ rfl) (hid fun W hW => undo_any (C hW) (hT.below hW) i hi het ht.m2 a (haS (by decide) (by decide)) (by have := haS (by decide) (by decide); omega) 11 tx v x why)
  · exact next_12 h hK hev i hi tx a v x why he hm _ (hlen _ rfl) (hid fun W hW => wait_any (C hW) i hi het 12 tx a v x why)
  · exact next_13 h hK hev i hi tx a v x why he hm _ (hlen _ rfl) (hid fun W hW => wake_any (C hW) i hi het ht.m1 (by omega) 13 tx a v x why)
set_option maxRecDepth 100000 in
set_option maxHeartbeats 4000000 in
theorem next_bad' (h : CkAt w c tb sb s ev) (hK : KindsAt w) (hev : ev < 1048576) (kind th tx at_ v x why : Int) (he : EvOk ⟨kind, th, tx, at_, v, x, why⟩) (hm : mayE ⟨kind, th, tx, at_, v, x, why⟩ s.ths.length s.vars s.sts.length = false) :
    Calls Tryz.prog 38 #[.pointer (some ⟨c, 0, none⟩), .agg #[.int .u8 kind, .int .i64 th, .int .i64 tx, .int .i64 at_, .int .i64 v, .int .i64 x, .int .u8 why]] w (NextP w c tb sb s ev none) := by
  obtain ⟨c0, c1, c2, c3, c4⟩ := h.cells
  have hcl := lt_of_cell c0
  have HH := hid h
  have g1 : (ev : Int) < 1048576 := by omega
  have g2 : (0 : Int) ≤ (ev : Int) := by omega
  have g3 : decide ((1048576 : Int) ≤ (ev : Int)) = false := by rw [decide_eq_false_iff_not]; omega
  have hmay := fun W (hW : Below w.heap.size w W) => may_any ⟨kind, th, tx, at_, v, x, why⟩ s.ths.length s.vars s.sts.length W he (hK.below hW)
  rw [hm] at hmay
  dsimp only [evA] at hmay
  have HMAY := hid hmay
  clear hmay
  clear h hK he hm hev
  go_enter Tryz.func38, Tryz.ntmps38
  go_wp2_with fail
  have b0 := (Blk.new w #[.int .u8 kind, .int .i64 th, .int .i64 tx, .int .i64 at_, .int .i64 v, .int .i64 x, .int .u8 why] 50)
  apply wp_region_vals' [.agg #[.int .u8 kind, .int .i64 th, .int .i64 tx, .int .i64 at_, .int .i64 v, .int .i64 x, .int .u8 why], .pointer (some ⟨c, 0, none⟩), .pointer (some ⟨c, 0, none⟩), .pointer (some ⟨c, 3, none⟩), .slice (some ⟨tb, 0, none⟩) s.ths.length s.ths.length, .int .i64 (s.ths.length : Int), .pointer (some ⟨c, 0, none⟩), .pointer (some ⟨c, 0, none⟩), .pointer (some ⟨c, 0, none⟩), .int .i64 s.vars, .pointer (some ⟨c, 0, none⟩), .pointer (some ⟨c, 0, none⟩), .pointer (some ⟨c, 4, none⟩), .slice (some ⟨sb, 0, none⟩) s.sts.length s.sts.length, .int .i64 (s.sts.length : Int), .bool false, .bool true, .bool true] (fun w' => Below (w.alloc (.cells #[.int .u8 kind, .int .i64 th, .int .i64 tx, .int .i64 at_, .int .i64 v, .int .i64 x, .int .u8 why] 50)).heap.size (w.alloc (.cells #[.int .u8 kind, .int .i64 th, .int .i64 tx, .int .i64 at_, .int .i64 v, .int .i64 x, .int .u8 why] 50)) w')
  focus (simp [putAll, dstOf, Act.put, List.getD]; rfl)
  case hm => kernel_rfl
  case hd => kernel_rfl
  case hb => kernel_rfl
  case hdep => kernel_rfl
  case hsel => kernel_rfl
  case hsz => kernel_rfl
  case h0 => exact ext_drew (ext_refl _)
  case hstep =>
    repeat' (first | exact trivial | (refine And.intro ?_ ?_))
    all_goals (
      intro w' hG
      rw [if_pos (by kernel_rfl)]
      intro K Qp hK
      have d0 := later hG (cell_alloc c0)
      have d3 := later hG (cell_alloc c3)
      have d4 := later hG (cell_alloc c4)
      have d20 := later hG (b0.cell 0 rfl)
      have d21 := later hG (b0.cell 1 rfl)
      have d22 := later hG (b0.cell 2 rfl)
      have d23 := later hG (b0.cell 3 rfl)
      have d24 := later hG (b0.cell 4 rfl)
      have d25 := later hG (b0.cell 5 rfl)
      have d26 := later hG (b0.cell 6 rfl)
      have hb0 : Below w.heap.size w w' := ext_trans (ext_alloc (ext_refl _) _) hG
      have HB0 := hid hb0
      have HGG := hid hG
      clear hb0 hG c0 c1 c2 c3 c4 b0
      go_simp
      first
      | exact hK _ HGG.out
      | (go_wp2_with ((with_reducible refine (HMAY.out _ HB0.out).mono ?_); rintro e' w1 ⟨rfl, hb1⟩)
         first | (with_reducible exact HGG.out) | exact ext_trans HGG.out hb1 | exact hK _ HGG.out | exact hK _ (ext_trans HGG.out hb1)))
  case hdone =>
    intro w' hG
    have hb : Below w.heap.size w w' := ext_trans (ext_alloc (ext_refl _) _) hG
    have HB := hid hb
    clear hb hG c0 c1 c2 c3 c4 b0
    go_wp2_with fail
    go_ret
    exact Or.inr ⟨rfl, rfl, CkR.below HH.out HB.out, Turn.of_below HB.out⟩
theorem next_all (h : CkAt w c tb sb s ev) (hw : Wf s) (hcm : ∀ i, i < s.ths.length → (s.ths.getD i Th.zero).commits ≤ 1048576) (hK : KindsAt w) (hT : TabOk w) (hev : ev < 1048576) (e : Ev) (he : EvOk e) :
    Calls Tryz.prog 38 #[.pointer (some ⟨c, 0, none⟩), evA e] w (NextP w c tb sb s ev (stepS s e)) := by
  cases hm : mayE e s.ths.length s.vars s.sts.length with
  | true => exact next_any h hw hcm hK hT hev e he hm
  | false =>
    have : stepS s e = none := by unfold stepS; have hn : s.n = s.sts.length := rfl; rw [hn, hm]; rfl
    rw [this]
    exact next_bad' h hK hev e.kind e.th e.tx e.at_ e.v e.x e.why he hm
end
end Go.Proofs.YtnblhodhkifeeaaGreatDoor
/-
  Traces in memory; walks: shape.Check.
-/
namespace Go.Proofs.YtnblhodhkifeeaaGreatDoor
set_option linter.unusedVariables false
set_option linter.unusedSimpArgs false
open Go Go.RowKit
def EvsAt (w : World) (a : Option Addr) (l : List Ev) : Prop :=
  (∀ e ∈ l, EvOk e) ∧ (l ≠ [] → ∃ b o, a = some ⟨b, o, none⟩ ∧ ∀ k (h : k < l.length) j v, (evL l[k])[j]? = some v → w.cell? ⟨b, o + k * 7 + j, none⟩ = some v)
theorem EvsAt.below {w w' : World} {a : Option Addr} {l : List Ev} (hb : Below w.heap.size w w') (h : EvsAt w a l) : EvsAt w' a l :=
  ⟨h.1, fun hn => by
    obtain ⟨b, o, h1, h2⟩ := h.2 hn
    exact ⟨b, o, h1, fun k hk j v hv => later hb (h2 k hk j v hv)⟩⟩
def trA (T V S : Int) (a : Option Addr) (n cap : Nat) : Value := .agg #[.int .i64 T, .int .i64 V, .int .i64 S, .slice a n cap]
theorem sizeOk_of {T V S : Int} (h : sizeOk T V S = true) : 0 ≤ T ∧ T ≤ 6 ∧ 1 ≤ V ∧ V ≤ 32 ∧ 1 ≤ S ∧ S ≤ V := by simpa [sizeOk] using h
set_option maxRecDepth 100000 in
set_option maxHeartbeats 4000000 in
theorem check_size (T V S : Int) (a : Option Addr) (n cap : Nat) (w : World) (h : sizeOk T V S = false) :
    Calls Tryz.prog 15 #[trA T V S a n cap] w fun e w' => e = .returned (.tuple #[.int .i64 0, .int .i64 1]) ∧ Below w.heap.size w w' := by
  have HN := hid (fun W => new_bad T V S W (by unfold sizeOk at h; simpa using h))
  clear h
  dsimp only [trA]
  go_enter Tryz.func15, Tryz.ntmps15
  go_wp2_with fail
  refine (HN.out _).mono ?_
  rintro e' w1 ⟨rfl, rfl⟩
  go_wp2_with fail
  go_ret2
  exact ⟨rfl, by repeat (first | assumption | exact ext_refl _ | refine ext_drew ?_ | refine ext_alloc ?_ _ | refine ext_trans ?_ (by assumption))⟩
set_option maxRecDepth 100000 in
set_option maxHeartbeats 4000000 in
theorem check_great (T V S : Nat) (a : Option Addr) (n cap : Nat) (w : World) (h : sizeOk T V S = true) (hn : 1048576 < n) :
    Calls Tryz.prog 15 #[trA T V S a n cap] w fun e w' => e = .returned (.tuple #[.int .i64 0, .int .i64 40]) ∧ Below w.heap.size w w' := by
  have h' := sizeOk_of h
  have HN := hid (fun W => new_ok T V S W (by omega) (by omega) (by omega) (by omega) (by omega))
  have g1 : decide ((1048576 : Int) < (n : Int)) = true := by rw [decide_eq_true_iff]; omega
  clear h h' hn
  dsimp only [trA]
  go_enter Tryz.func15, Tryz.ntmps15
  go_wp2_with fail
  refine (HN.out _).mono ?_
  rintro e' w1 ⟨c, tb, sb, b1, b2, b3, rfl, hck, hb⟩
  have d0 := later hb ((Blk.new w #[.int .i64 (T : Int), .int .i64 (V : Int), .int .i64 (S : Int), .slice a n cap] 25).cell 3 rfl)
  have HB : Below w.heap.size w w1 := ext_trans (ext_alloc (ext_refl _) _) hb
  clear hck
  go_wp2_with fail
  go_ret2
  exact ⟨rfl, HB⟩
set_option maxRecDepth 100000 in
set_option maxHeartbeats 2000000 in
theorem check_loop (T V S : Nat) (a : Option Addr) (l : List Ev) (cap : Nat) (w : World) (hz : sizeOk T V S = true) (hE : EvsAt w a l) (hl : l.length ≤ 1048576) (hK : KindsAt w) (hT : TabOk w)
    (hnx : ∀ (W : World) (c tb sb ev : Nat) (s : Sh), CkAt W c tb sb s ev → Wf s → (∀ i, i < s.ths.length → (s.ths.getD i Th.zero).commits ≤ 1048576) → KindsAt W → TabOk W → ev < 1048576 → ∀ e, EvOk e → Calls Tryz.prog 38 #[.pointer (some ⟨c, 0, none⟩), evA e] W (NextP W c tb sb s ev (stepS s e))) :
    Calls Tryz.prog 15 #[trA T V S a l.length cap] w fun e w' => e = .returned (.tuple #[.int .i64 (checkT T V S l).1, .int .i64 (checkT T V S l).2]) ∧ Below w.heap.size w w' := by
  have h' := sizeOk_of hz
  have HN := hid (fun W => new_ok T V S W (by omega) (by omega) (by omega) (by omega) (by omega))
  have g1 : decide ((1048576 : Int) < (l.length : Int)) = false := by rw [decide_eq_false_iff_not]; omega
  have HE := hid hE
  have HKT := hid (And.intro hK hT)
  have HL := hid hl
  have HZ := hid hz
  have HNX := hid hnx
  clear h' hE hl hK hT hz hnx
  dsimp only [trA]
  go_enter Tryz.func15, Tryz.ntmps15
  go_wp2_with fail
  refine (HN.out _).mono ?_
  rintro e' w1 ⟨c, tb, sb, b1, b2, b3, rfl, hck, hb⟩
  have d0 := later hb ((Blk.new w #[.int .i64 (T : Int), .int .i64 (V : Int), .int .i64 (S : Int), .slice a l.length cap] 25).cell 3 rfl)
  have HB : Hid (Below w.heap.size w w1) := hid (ext_trans (ext_alloc (ext_refl _) _) hb)
  have HB1 : Hid (w.heap.size < c ∧ w.heap.size < tb ∧ w.heap.size < sb) := hid (by simp only [World.alloc, Array.size_push] at b1 b2 b3; omega)
  have HC := hid hck
  clear hck hb b1 b2 b3
  go_wp2_with fail
  go_loopw [30] (fun i wr => ∃ (k : Nat) (s : Sh), k ≤ l.length ∧ i = .int .i64 (k : Int) ∧ Hid (Behind T V S l k s) ∧ Hid (CkAt wr c tb sb s k) ∧ Hid (Below w.heap.size w wr) ∧ wr.cell? ⟨w.heap.size, 3, none⟩ = some (.slice a l.length cap)) (fun i _ => l.length - (intOf i).toNat)
  case atStart => exact ⟨0, _, Nat.zero_le _, rfl, hid (Behind.zero HZ.out l), HC, HB, d0⟩
  case round =>
    obtain ⟨k, s, hkl, rfl, HS, HCK, HBR, d0⟩ := hrel
    have HKL := hid hkl
    by_cases hlt : k < l.length
    · have j1 : decide ((k : Int) < (l.length : Int)) = true := by rw [decide_eq_true_iff]; omega
      have j2 : (0 : Int) ≤ (k : Int) := by omega
      have j3 : IntKind.i64.wrap ((k : Int) + 1) = (k : Int) + 1 := IntWalk.i64_in _ (by have := HL.out; omega)
      have j4 : decide (k < l.length) = true := by rw [decide_eq_true_iff]; omega
      obtain ⟨b, o, rfl, hcell⟩ := HE.out.2 (by intro h; rw [h] at hlt; simp at hlt)
      have HOK := hid (HE.out.1 l[k] (List.getElem_mem hlt))
      have HST := hid (fun s' (hs : stepS s l[k] = some s') => HS.out.step hlt hs)
      have HNO := hid (fun (hs : stepS s l[k] = none) => HS.out.checkT_bad HZ.out HL.out hlt hs)
      rcases hek : l[k] with ⟨kind, th, tx, at_, v, x, why⟩
      have e0 := later HBR.out (hcell k hlt 0 (.int .u8 kind) (by rw [hek]; rfl))
      have e1 := later HBR.out (hcell k hlt 1 (.int .i64 th) (by rw [hek]; rfl))
      have e2 := later HBR.out (hcell k hlt 2 (.int .i64 tx) (by rw [hek]; rfl))
      have e3 := later HBR.out (hcell k hlt 3 (.int .i64 at_) (by rw [hek]; rfl))
      have e4 := later HBR.out (hcell k hlt 4 (.int .i64 v) (by rw [hek]; rfl))
      have e5 := later HBR.out (hcell k hlt 5 (.int .i64 x) (by rw [hek]; rfl))
      have e6 := later HBR.out (hcell k hlt 6 (.int .u8 why) (by rw [hek]; rfl))
      rw [Nat.add_zero] at e0
      rw [hek] at HOK HST HNO
      have HLT := hid hlt
      clear hcell hek hlt hkl
      go_wp2_with fail
      have HA : Hid (Below wr.heap.size wr (wr.alloc (.cells #[.int .u8 kind, .int .i64 th, .int .i64 tx, .int .i64 at_, .int .i64 v, .int .i64 x, .int .u8 why] 50))) := hid (ext_alloc (ext_refl _) _)
      refine (HNX.out _ c tb sb k s (CkR.below HCK.out HA.out) HS.out.wf (fun i hi => by have := HS.out.cm i hi; have := HLT.out; have := HL.out; omega) ((HKT.out.1.below HBR.out).below HA.out) ((HKT.out.2.below HBR.out).below HA.out) (by have := HLT.out; have := HL.out; omega) ⟨kind, th, tx, at_, v, x, why⟩ HOK.out).mono ?_
      rintro e' w2 hp
      have hbt : ∀ W', Turn [c, tb, sb] (wr.alloc (.cells #[.int .u8 kind, .int .i64 th, .int .i64 tx, .int .i64 at_, .int .i64 v, .int .i64 x, .int .u8 why] 50)) W' → Below w.heap.size w W' ∧ W'.cell? ⟨w.heap.size, 3, none⟩ = some (.slice (some ⟨b, o, none⟩) l.length cap) := by
        intro W' ht
        obtain ⟨h1, h2, h3⟩ := HB1.out
        refine ⟨(ext_trans HBR.out HA.out).trans (ht.below ?_ (Nat.le_trans HBR.out.size HA.out.size)), ht.cell ?_ (cell_alloc d0)⟩
        · intro y hy; simp only [List.mem_cons, List.not_mem_nil, or_false] at hy; rcases hy with rfl | rfl | rfl <;> omega
        · simp only [List.mem_cons, List.not_mem_nil, or_false]; omega
      have HBT := hid hbt
      clear hbt d0 e0 e1 e2 e3 e4 e5 e6
      rcases hp with ⟨s', hs, rfl, hck, ht⟩ | ⟨hs, rfl, hck, ht⟩
      · have HCK2 := hid hck
        have HT2 := hid (HBT.out _ ht)
        have HS2 := hid (HST.out s' hs)
        clear hck ht hs
        go_wp2_with fail
        go_roundw
        case rel => exact ⟨k + 1, s', by have := HLT.out; omega, by simp, HS2, HCK2, hid HT2.out.1, HT2.out.2⟩
        case measure => have := HLT.out; simp [intOf]; omega
      · have HT2 := hid (HBT.out _ ht)
        have HN2 := hid (HNO.out hs)
        clear hck ht hs
        go_wp2_with fail
        go_ret2
        rw [HN2.out]
        exact ⟨rfl, HT2.out.1⟩
    · obtain rfl : k = l.length := by omega
      have j1 : decide ((l.length : Int) < (l.length : Int)) = false := by rw [decide_eq_false_iff_not]; omega
      have j4 : decide (l.length < l.length) = false := by rw [decide_eq_false_iff_not]; omega
      have HAL := hid (HS.out.checkT_all HZ.out HL.out)
      go_wp2_with fail
      go_ret2
      rw [HAL.out]
      exact ⟨rfl, HBR.out⟩
theorem check_any (T V S : Int) (a : Option Addr) (l : List Ev) (cap : Nat) (w : World) (hE : EvsAt w a l) (hK : KindsAt w) (hT : TabOk w)
    (hnx : ∀ (W : World) (c tb sb ev : Nat) (s : Sh), CkAt W c tb sb s ev → Wf s → (∀ i, i < s.ths.length → (s.ths.getD i Th.zero).commits ≤ 1048576) → KindsAt W → TabOk W → ev < 1048576 → ∀ e, EvOk e → Calls Tryz.prog 38 #[.pointer (some ⟨c, 0, none⟩), evA e] W (NextP W c tb sb s ev (stepS s e))) :
    Calls Tryz.prog 15 #[trA T V S a l.length cap] w fun e w' => e = .returned (.tuple #[.int .i64 (checkT T V S l).1, .int .i64 (checkT T V S l).2]) ∧ Below w.heap.size w w' := by
  cases hz : sizeOk T V S with
  | false => rw [checkT_size hz]; exact check_size T V S a _ cap w hz
  | true =>
    obtain ⟨h1, h2, h3, h4, h5, h6⟩ := sizeOk_of hz
    obtain ⟨T, rfl⟩ := Int.eq_ofNat_of_zero_le h1
    obtain ⟨V, rfl⟩ := Int.eq_ofNat_of_zero_le (show 0 ≤ V by omega)
    obtain ⟨S, rfl⟩ := Int.eq_ofNat_of_zero_le (show 0 ≤ S by omega)
    by_cases hl : 1048576 < l.length
    · rw [checkT_great hz hl]; exact check_great T V S a _ cap w hz hl
    · exact check_loop T V S a l cap w hz hE (by omega) hK hT hnx
end Go.Proofs.YtnblhodhkifeeaaGreatDoor
/-
  Walk: shape.Check, whatever the trace.
-/
namespace Go.Proofs.YtnblhodhkifeeaaGreatDoor
set_option linter.unusedVariables false
set_option linter.unusedSimpArgs false
open Go Go.RowKit
theorem check_all (T V S : Int) (a : Option Addr) (l : List Ev) (cap : Nat) (w : World) (hE : EvsAt w a l) (hK : KindsAt w) (hT : TabOk w) :
    Calls Tryz.prog 15 #[trA T V S a l.length cap] w fun e w' => e = .returned (.tuple #[.int .i64 (checkT T V S l).1, .int .i64 (checkT T V S l).2]) ∧ Below w.heap.size w w' :=
  check_any T V S a l cap w hE hK hT fun W c tb sb ev s h1 h2 h3 h4 h5 h6 e h7 => next_all h1 h2 h3 h4 h5 h6 e h7
end Go.Proofs.YtnblhodhkifeeaaGreatDoor
