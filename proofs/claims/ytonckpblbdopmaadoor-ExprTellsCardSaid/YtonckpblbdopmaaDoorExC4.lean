/-
  Copy of expressions by the document, walked (the walk itself).
-/
import Derived.Test.YtonckpblbdopmaaDoorExC3
import Derived.Deep.RegionLaw
namespace Go.Proofs.YtonckpblbdopmaaDoor
set_option linter.unusedVariables false
open Go Go.RowKit

theorem rowOf_frame {wr w1 : World} {B k : Nat} {args : List Ex} {v : Value} {news : List Value} (h : RowOf wr B args k v news) (hb1 : Below wr.heap.size wr w1) (o : Obj) : (w1.alloc o).ownsRow B 29 3 v k news :=
  ownsRow_frame h.1 fun g hg => ((ext_alloc (ext_refl w1) o).block g (Nat.lt_of_lt_of_le (h.1.lt g hg).2 hb1.size)).trans (hb1.block g (h.1.lt g hg).2)
theorem cells3 (w1 : World) (x y z : Value) (t : TypeId) : ∀ (j : Nat) (u : Value), [x, y, z][j]? = some u → (w1.alloc (.cells #[x, y, z] t)).cell? ((⟨w1.heap.size, 0, none⟩ : Addr).add j) = some u := by
  intro j u hu
  have hb := Blk.new w1 #[x, y, z] t
  match j, hu with
  | 0, hu => exact hb.cell 0 (by simpa using hu)
  | 1, hu => exact hb.cell 1 (by simpa using hu)
  | 2, hu => exact hb.cell 2 (by simpa using hu)
theorem grown_low {wr w1 w2 : World} {B k : Nat} {args : List Ex} {v : Value} {news : List Value} {o : Obj} (h : RowOf wr B args k v news) (hb1 : Below wr.heap.size wr w1) (hg : (w1.alloc o).grownBy w2 v.ownBlock) :
    ∀ b, b < B → w2.heap[b]? = wr.heap[b]? := by
  intro b hb
  have hbw : b < wr.heap.size := Nat.lt_of_lt_of_le hb h.2.1
  have hb1s := hb1.size
  rw [hg.block b (by simp; omega) (fun he => by have := (h.1.lt b he.symm).1; omega)]
  exact ((ext_alloc (ext_refl w1) o).block b (by omega)).trans (hb1.block b hbw)
theorem grown_below {w wr w1 w2 : World} {B : Nat} {row : Option Nat} {o : Obj} (hw : Below w.heap.size w wr) (hb1 : Below wr.heap.size wr w1) (hg : (w1.alloc o).grownBy w2 row) (hrow : ∀ g, row = some g → w.heap.size ≤ g) : Below w.heap.size w w2 := by
  have h1 := ext_alloc (ext_trans hw hb1) o
  exact h1.grown hg h1.size hrow

theorem ownsRow_shape {w : World} {base size n : Nat} {e : TypeId} {v : Value} {xs : List Value} (h : w.ownsRow base e size v (n + 1) xs) : ∃ g cap, v = .slice (some ⟨g, 0, none⟩) (n + 1) cap := by
  obtain ⟨-, ⟨-, h⟩ | ⟨g, cap, cur, rfl, -⟩⟩ := h
  · omega
  · exact ⟨g, cap, rfl⟩

theorem ownsRow_slice {w : World} {base size n : Nat} {e : TypeId} {v : Value} {xs : List Value} (h : w.ownsRow base e size v n xs) : ∃ A m c, v = .slice A m c := by
  obtain ⟨-, ⟨rfl, h⟩ | ⟨g, cap, cur, rfl, -⟩⟩ := h
  · exact ⟨_, _, _, rfl⟩
  · exact ⟨_, _, _, rfl⟩

set_option maxRecDepth 100000 in
set_option maxHeartbeats 4000000 in
theorem rcopy_any (s : Nat) : ∀ (e : Ex) (w : World) (v0 v1 v2 : Value), sizeE e ≤ s → sizeE e ≤ 1000000 → RdEx w e v0 v1 v2 →
    Calls Tryd.prog 30 #[.agg #[v0, v1, v2]] w (RCopyOf w e) := by
  induction s with
  | zero => intro e w v0 v1 v2 h; have := sizeE_pos e; omega
  | succ s ih =>
  intro e w v0 v1 v2 hs hm hr
  cases e with | mk op n args =>
  unfold RdEx at hr
  obtain ⟨rfl, rfl, hb0, hn0, a, cap, rfl, hlen, hx⟩ := hr
  simp only [sizeE] at hs hm
  have IH := hid ih
  have HX := hid hx
  clear ih hx
  have hla := sizeL_length args
  obtain ⟨i0, hi0, hz0, hz1, hz2⟩ := info_parts infoExpr
  have hA := ext_alloc (ext_alloc (ext_alloc (ext_refl w) (.cells #[.int .u8 op, .int .i64 n, .slice a args.length cap] 29)) (.cells #[.int .u8 0, .int .i64 0, .slice none 0 0] 29)) (.cells #[.int .u8 op, .int .i64 n, .slice none 0 0] 29)
  go_enter Tryd.func30, Tryd.ntmps30
  go_wp2_with fail
  go_loopw [4] (fun i wr => ∃ (k : Nat) (v : Value) (news : List Value), k ≤ args.length ∧ i = .int .i64 k ∧ Hid (RowOf wr (w.heap.size + 3) args k v news) ∧ Hid (Blk wr w.heap.size #[.int .u8 op, .int .i64 n, .slice a args.length cap] 29) ∧
      Hid (Blk wr (w.heap.size + 1) #[.int .u8 0, .int .i64 0, .slice none 0 0] 29) ∧ Hid (Blk wr (w.heap.size + 1 + 1) #[.int .u8 op, .int .i64 n, v] 29) ∧ Below w.heap.size w wr) (fun i _ => args.length - (intOf i).toNat)
  case atStart =>
    refine ⟨0, .slice none 0 0, [], Nat.zero_le _, rfl, ⟨World.ownsRow_nil _ _ _ _, by simp, fun j _ h => by omega⟩, hid (((Blk.new _ _ _).alloc _).alloc _), hid ((Blk.new' _ _ _ (by simp)).alloc _), hid (Blk.new' _ _ _ (by simp)), hA⟩
  case round =>
    obtain ⟨k, v, news, hk, rfl, HROW, HB0, HB1, HB2, hb⟩ := hrel
    by_cases hlt : k < args.length
    · have hne : args ≠ [] := by intro h; subst h; simp at hlt
      obtain ⟨b, off, rfl, hrd⟩ := HX.out hne
      obtain ⟨a2, c2, d0, d1, d2, e3⟩ := hrd.get' k hlt
      have lc := lt_of_cell d0
      have D0 := hid d0
      have D1 := hid d1
      have D2 := hid d2
      have q0 := later hb d0
      have q1 := later hb d1
      have q2 := later hb d2
      have p0 := HB0.out.cell 2 (v := .slice (some ⟨b, off, none⟩) args.length cap) rfl
      have p1 := HB2.out.cell 2 (v := v) rfl
      have P0 := hid p0
      have hle := sizeL_get_le args k hlt
      have HIH := hid (IH.out args[k] wr.drew _ _ _ (by omega) (by omega) ((e3.below hb).below (ext_drew (ext_refl _))))
      have hm1 : k + 1 ≤ maxLen := by unfold maxLen; omega
      have hm2 : (k + 1) * 40 ≤ 140737488355328 := by omega
      have HM1 := hid hm1
      have HM2 := hid hm2
      clear d0 d1 d2 e3 hne hle hm1 hm2 hrd
      go_wp2_with fail
      go_region_law
        (first
          | (go_simp; go_at_call 30; refine HIH.out.mono ?_; rintro e' w1 ⟨a3, c3, rfl, hb1, hcp1⟩; have hE1 : Below wr.heap.size wr w1 := ext_trans (ext_drew (ext_refl _)) hb1; have r1 := later hE1 p1; have r1l := lt_of_cell r1; have r2 := later (ext_alloc (ext_refl w1) (.cells #[.int .u8 args[k].op, .int .i64 args[k].n, .slice a3 args[k].args.length c3] 29)) r1; have HCP := hid hcp1; clear hcp1)
          | (refine step_append_at _ (by rfl) _ _ _ (by rfl) (w.heap.size + 3) 29 i0 _ 3 40 Tryd.underlying27 hi0 hz0 hz1 hz2 rfl (by decide) v k news (by rfl) (rowOf_frame HROW.out hE1 _) ⟨w1.heap.size, 0, none⟩ 1 1
              [.int .u8 args[k].op, .int .i64 args[k].n, .slice a3 args[k].args.length c3] (by rfl) (by rfl) (cells3 _ _ _ _ _) (by simp [Value.oneCell']) HM1.out HM2.out (by have := HROW.out.2.1; have := hE1.size; simp; omega) ?_
             intro v' w2 hown2 hg2 hd2
             obtain ⟨g', cap', rfl⟩ := ownsRow_shape hown2
             have hlow := grown_low HROW.out hE1 hg2
             have f0 : w2.cell? ⟨w.heap.size, 2, none⟩ = some (.slice (some ⟨b, off, none⟩) args.length cap) := (World.cell?_of_block (hlow _ (by dsimp only; omega))).trans P0.out
             have f1 : w2.cell? ⟨b, off + k * 3, none⟩ = some (.int .u8 args[k].op) := (World.cell?_of_block (hlow _ (by dsimp only; omega))).trans (later hb D0.out)
             have f2 : w2.cell? ⟨b, off + k * 3 + 1, none⟩ = some (.int .i64 args[k].n) := (World.cell?_of_block (hlow _ (by dsimp only; omega))).trans (later hb D1.out)
             have f3 : w2.cell? ⟨b, off + k * 3 + 2, none⟩ = some (.slice a2 args[k].args.length c2) := (World.cell?_of_block (hlow _ (by dsimp only; omega))).trans (later hb D2.out)
             have g1 : Blk w2 (w.heap.size + 1 + 1) #[.int .u8 op, .int .i64 n, v] 29 := (hlow _ (by omega)).trans HB2.out
             have g2 := g1.cell 2 (v := v) rfl
             have g3 := g1.free 2
             have HG1 := hid g1
             have HLOW := hid hlow
             have HST : Hid (RowOf (w2.setCell ⟨w.heap.size + 1 + 1, 2, none⟩ (.slice (some ⟨g', 0, none⟩) (k + 1) cap')) (w.heap.size + 3) args (k + 1) (.slice (some ⟨g', 0, none⟩) (k + 1) cap') _) := hid (rowOf_step hlt HROW.out (by omega) hE1 HCP.out hown2 hg2 hd2)
             have HBEL := hid (grown_below (B := 0) hb hE1 hg2 (fun g hg => by have := (HROW.out.1.lt g hg).1; omega))
             clear g1 hlow hown2 hg2 hd2))
      all_goals go_wp2_with fail
      all_goals go_roundw
      case rel | rel | rel | rel | rel => exact ⟨k + 1, _, _, hlt, by go_num, HST, hid (Blk.set_other ((HLOW.out _ (by omega)).trans HB0.out) _ _ (by dsimp only; omega)), hid (Blk.set_other ((HLOW.out _ (by omega)).trans HB1.out) _ _ (by dsimp only; omega)), hid (by simpa using HG1.out.set 2 (.slice (some ⟨g', 0, none⟩) (k + 1) cap')), ext_set HBEL.out (by dsimp only; omega) _⟩
      all_goals (simp [intOf]; omega)
    · obtain rfl : k = args.length := by omega
      obtain ⟨vA, vm, vc, rfl⟩ := ownsRow_slice HROW.out.1
      have hB1 := HB1.out
      have hB2 := HB2.out
      have p0 := HB0.out.cell 2 (v := .slice a args.length cap) rfl
      have q0 := hB2.cell 0 (v := .int .u8 op) rfl
      have q1 := hB2.cell 1 (v := .int .i64 n) rfl
      have q2 := hB2.cell 2 (v := .slice vA vm vc) rfl
      have r0 := hB1.cell 0 rfl
      have r1 := hB1.cell 1 rfl
      have r2 := hB1.cell 2 rfl
      have r3 := fun o => hB1.free o
      have hfin := ((hB1.set 0 (.int .u8 op)).set 1 (.int .i64 n)).set 2 (.slice vA vm vc)
      have t0 := hfin.cell 0 (v := .int .u8 op) (by simp)
      have t1 := hfin.cell 1 (v := .int .i64 n) (by simp)
      have t2 := hfin.cell 2 (v := .slice vA vm vc) (by simp)
      have HEND := hid (rowOf_end (w3 := ((wr.setCell ⟨w.heap.size + 1, 0, none⟩ (.int .u8 op)).setCell ⟨w.heap.size + 1, 1, none⟩ (.int .i64 n)).setCell ⟨w.heap.size + 1, 2, none⟩ (.slice vA vm vc)) hb0 hn0 hlen HROW.out (by omega)
        (ext_set (ext_set (ext_set hb (by simp) _) (by simp) _) (by simp) _) (((Agree.set _ _ (by dsimp only; omega)).trans (Agree.set _ _ (by dsimp only; omega))).trans (Agree.set _ _ (by dsimp only; omega))) (by simp only [size_setCell]; exact Nat.le_refl _))
      clear hfin
      go_wp2_with fail
      exact bodyPost_ret (v := .agg #[.int .u8 op, .int .i64 n, .slice vA vm vc]) (by simp [results, Tryd.results30, go_sem, t0, t1, t2]) rfl HEND.out
end Go.Proofs.YtonckpblbdopmaaDoor
