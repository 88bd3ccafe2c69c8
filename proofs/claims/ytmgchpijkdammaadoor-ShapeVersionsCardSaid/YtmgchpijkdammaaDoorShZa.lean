/-
  The law ShapeVersions: its walk.
-/
import Derived.Test.YtmgchpijkdammaaDoorShZ
namespace Go.Proofs.YtmgchpijkdammaaDoor
set_option linter.unusedVariables false
set_option linter.unusedSimpArgs false
open Go Go.RowKit
/-- A row of numbers. -/
def fnC (n : Nat) (f : Nat → Int) : Array Value := ((List.range n).map fun j => Value.int .i64 (f j)).toArray
theorem fnC_get (n : Nat) (f : Nat → Int) (j : Nat) (hj : j < n) : (fnC n f)[j]? = some (.int .i64 (f j)) := by
  unfold fnC
  rw [List.getElem?_toArray, List.getElem?_map, List.getElem?_range hj]; rfl
theorem fnC_set {n : Nat} {f f' : Nat → Int} {j : Nat} {x : Int} (h : ∀ i, f' i = if i = j then x else f i) : (fnC n f).setIfInBounds j (.int .i64 x) = fnC n f' := by
  apply Array.ext
  · simp [fnC]
  · intro i h1 h2
    have hi : i < n := by simpa [fnC] using h2
    have e1 := fnC_get n f i hi
    have e2 := fnC_get n f' i hi
    rw [Array.getElem?_eq_getElem h2] at e2
    rw [Option.some.inj e2, Array.getElem_setIfInBounds (by simpa [fnC] using hi), h i]
    by_cases hij : j = i
    · subst hij; simp
    · rw [if_neg hij, if_neg (Ne.symm hij)]
      rw [Array.getElem?_eq_getElem (by simpa [fnC] using hi)] at e1
      exact Option.some.inj e1
theorem fnC_same {n : Nat} {f f' : Nat → Int} (h : ∀ i, f' i = f i) : fnC n f' = fnC n f := by unfold fnC; simp only [h]
theorem verB {W : World} {b : Nat} {ver : Nat → Int} {j : Nat} {x : Int} {t : TypeId} (h : Blk W b (fnC 32 ver) t) : Blk (W.setCell ⟨b, j, none⟩ (.int .i64 x)) b (fnC 32 (upd ver j x)) t := by
  have := h.set j (.int .i64 x)
  rw [fnC_set (f' := upd ver j x) (fun i => rfl)] at this
  exact this
theorem thR_new (T V S : Int) (j : Nat) : thR (newS T V S) j = 0 := by
  unfold thR newS
  simp only [List.getD_eq_getElem?_getD, List.getElem?_replicate]
  split <;> rfl
theorem verL_new (T V S : Int) : VerL (newS T V S) (fun _ => 0) (fun _ => 0) := by
  have h0 : ∀ i, ((newS T V S).ths.getD i Th.zero) = Th.zero := by
    intro i
    simp only [newS, List.getD_eq_getElem?_getD, List.getElem?_replicate]
    split <;> rfl
  refine ⟨fun i _ h => ?_, fun i hi => ?_, fun i => ?_, fun i _ h => ?_⟩
  · rw [h0] at h; simp [Th.zero] at h
  · simp only [newS, List.length_replicate] at hi
    unfold stV newS
    simp [List.getD_eq_getElem?_getD, List.getElem?_replicate, hi]
  · simp [newS]
  · rw [h0] at h; simp [Th.zero] at h
set_option maxRecDepth 100000 in
set_option maxHeartbeats 4000000 in
theorem vers_great (T V S : Int) (a : Option Addr) (len cap : Nat) (w : World) (hl : 2000 < len) (hK : KindsAt w) (hT : TabOk w) :
    Calls Tryd.prog 6 #[trA T V S a len cap] w fun e w' => e = .returned (.bool true) ∧ Below w.heap.size w w' := by
  have HW := hid (fun W (hW : Below w.heap.size w W) => works_any W (hK.below hW) (hT.below hW))
  have j : decide ((2000 : Int) < (len : Int)) = true := by rw [decide_eq_true_iff]; omega
  clear hl hK hT
  dsimp only [trA]
  have HB : Hid (Below w.heap.size w (w.alloc (.cells #[.int .i64 T, .int .i64 V, .int .i64 S, .slice a len cap] 24))) := hid (ext_alloc (ext_refl _) _)
  have d := (Blk.new w #[.int .i64 T, .int .i64 V, .int .i64 S, .slice a len cap] 24).cell 3 rfl
  go_enter Tryd.func6, Tryd.ntmps6
  go_wp2_with fail
  refine (HW.out _ HB.out).mono ?_
  rintro e' w1 ⟨rfl, hb1⟩
  have d3 := later hb1 d
  have HB1 := hid (ext_trans HB.out hb1)
  clear hb1 d
  go_wp2_with fail
  refine (HW.out _ HB1.out).mono ?_
  rintro e' w2 ⟨rfl, hb2⟩
  have HB2 := hid (ext_trans HB1.out hb2)
  clear hb2
  go_wp2_with fail
  go_ret
  exact ⟨rfl, HB2.out⟩
set_option maxRecDepth 100000 in
set_option maxHeartbeats 4000000 in
theorem vers_no (T V S : Int) (a : Option Addr) (l : List Ev) (cap : Nat) (w : World) (hl : l.length ≤ 2000) (hf : fineT T V S l = false) (hE : EvsAt w a l) (hK : KindsAt w) (hT : TabOk w) :
    Calls Tryd.prog 6 #[trA T V S a l.length cap] w fun e w' => e = .returned (.bool true) ∧ Below w.heap.size w w' := by
  have HW := hid (fun W (hW : Below w.heap.size w W) => works_any W (hK.below hW) (hT.below hW))
  have HC := hid (fun W (hW : Below w.heap.size w W) => fine_any T V S a l cap W (hE.below hW) (by omega) (hK.below hW) (hT.below hW))
  rw [hf] at HC
  have j : decide ((2000 : Int) < (l.length : Int)) = false := by rw [decide_eq_false_iff_not]; omega
  clear hl hK hT hE hf
  dsimp only [trA] at HC ⊢
  have HB : Hid (Below w.heap.size w (w.alloc (.cells #[.int .i64 T, .int .i64 V, .int .i64 S, .slice a l.length cap] 24))) := hid (ext_alloc (ext_refl _) _)
  have d := Blk.new w #[.int .i64 T, .int .i64 V, .int .i64 S, .slice a l.length cap] 24
  go_enter Tryd.func6, Tryd.ntmps6
  go_wp2_with fail
  refine (HW.out _ HB.out).mono ?_
  rintro e' w1 ⟨rfl, hb1⟩
  have d0 := later hb1 (d.cell 0 rfl)
  have d1 := later hb1 (d.cell 1 rfl)
  have d2 := later hb1 (d.cell 2 rfl)
  have d3 := later hb1 (d.cell 3 rfl)
  have HB1 := hid (ext_trans HB.out hb1)
  clear hb1 d
  go_wp2_with fail
  refine (HC.out _ HB1.out).mono ?_
  rintro e' w2 ⟨rfl, hb2⟩
  have HB2 := hid (ext_trans HB1.out hb2)
  clear hb2
  go_wp2_with fail
  go_ret
  exact ⟨rfl, HB2.out⟩
set_option maxRecDepth 100000 in
set_option maxHeartbeats 4000000 in
theorem vers_loop (T V S : Nat) (a : Option Addr) (l : List Ev) (cap : Nat) (w : World) (hl : l.length ≤ 2000) (hf : fineT T V S l = true) (hE : EvsAt w a l) (hK : KindsAt w) (hT : TabOk w) :
    Calls Tryd.prog 6 #[trA T V S a l.length cap] w fun e w' => e = .returned (.bool true) ∧ Below w.heap.size w w' := by
  obtain ⟨hz, hall⟩ := fineT_of hl hf
  have HW := hid (fun W (hW : Below w.heap.size w W) => works_any W (hK.below hW) (hT.below hW))
  have HC := hid (fun W (hW : Below w.heap.size w W) => fine_any T V S a l cap W (hE.below hW) (by omega) (hK.below hW) (hT.below hW))
  rw [hf] at HC
  have j : decide ((2000 : Int) < (l.length : Int)) = false := by rw [decide_eq_false_iff_not]; omega
  have HE := hid hE
  have HL := hid hl
  have HZ := hid hz
  have HALL := hid hall
  clear hl hK hT hE hf hz hall
  dsimp only [trA] at HC ⊢
  have HB : Hid (Below w.heap.size w (w.alloc (.cells #[.int .i64 (T : Int), .int .i64 (V : Int), .int .i64 (S : Int), .slice a l.length cap] 24))) := hid (ext_alloc (ext_refl _) _)
  have d := Blk.new w #[.int .i64 (T : Int), .int .i64 (V : Int), .int .i64 (S : Int), .slice a l.length cap] 24
  go_enter Tryd.func6, Tryd.ntmps6
  go_wp2_with fail
  refine (HW.out _ HB.out).mono ?_
  rintro e' w1 ⟨rfl, hb1⟩
  have d0 := later hb1 (d.cell 0 rfl)
  have d1 := later hb1 (d.cell 1 rfl)
  have d2 := later hb1 (d.cell 2 rfl)
  have d3 := later hb1 (d.cell 3 rfl)
  have HB1 := hid (ext_trans HB.out hb1)
  clear hb1 d
  go_wp2_with fail
  refine (HC.out _ HB1.out).mono ?_
  rintro e' w2 ⟨rfl, hb2⟩
  have f3 := later hb2 d3
  have HB2 := hid (ext_trans HB1.out hb2)
  have HOB := hid (lt_of_cell f3)
  clear hb2 d0 d1 d2 d3
  go_wp2_with fail
  have g3 := cell_alloc (x := .cells #[.int .i64 0, .int .i64 0, .int .i64 0, .int .i64 0, .int .i64 0, .int .i64 0, .int .i64 0, .int .i64 0, .int .i64 0, .int .i64 0, .int .i64 0, .int .i64 0, .int .i64 0, .int .i64 0, .int .i64 0, .int .i64 0, .int .i64 0, .int .i64 0, .int .i64 0, .int .i64 0, .int .i64 0, .int .i64 0, .int .i64 0, .int .i64 0, .int .i64 0, .int .i64 0, .int .i64 0, .int .i64 0, .int .i64 0, .int .i64 0, .int .i64 0, .int .i64 0] 32) (cell_alloc (x := .cells #[.int .i64 0, .int .i64 0, .int .i64 0, .int .i64 0, .int .i64 0, .int .i64 0] 35) (cell_alloc (x := .cells #[.int .i64 0, .int .i64 0, .int .i64 0, .int .i64 0, .int .i64 0, .int .i64 0] 35) f3))
  have HB3 : Hid (Below w.heap.size w (((w2.alloc (.cells #[.int .i64 0, .int .i64 0, .int .i64 0, .int .i64 0, .int .i64 0, .int .i64 0] 35)).alloc (.cells #[.int .i64 0, .int .i64 0, .int .i64 0, .int .i64 0, .int .i64 0, .int .i64 0] 35)).alloc (.cells #[.int .i64 0, .int .i64 0, .int .i64 0, .int .i64 0, .int .i64 0, .int .i64 0, .int .i64 0, .int .i64 0, .int .i64 0, .int .i64 0, .int .i64 0, .int .i64 0, .int .i64 0, .int .i64 0, .int .i64 0, .int .i64 0, .int .i64 0, .int .i64 0, .int .i64 0, .int .i64 0, .int .i64 0, .int .i64 0, .int .i64 0, .int .i64 0, .int .i64 0, .int .i64 0, .int .i64 0, .int .i64 0, .int .i64 0, .int .i64 0, .int .i64 0, .int .i64 0] 32))) := hid (ext_alloc (ext_alloc (ext_alloc HB2.out _) _) _)
  have HR3 : Hid (Blk (((w2.alloc (.cells #[.int .i64 0, .int .i64 0, .int .i64 0, .int .i64 0, .int .i64 0, .int .i64 0] 35)).alloc (.cells #[.int .i64 0, .int .i64 0, .int .i64 0, .int .i64 0, .int .i64 0, .int .i64 0] 35)).alloc (.cells #[.int .i64 0, .int .i64 0, .int .i64 0, .int .i64 0, .int .i64 0, .int .i64 0, .int .i64 0, .int .i64 0, .int .i64 0, .int .i64 0, .int .i64 0, .int .i64 0, .int .i64 0, .int .i64 0, .int .i64 0, .int .i64 0, .int .i64 0, .int .i64 0, .int .i64 0, .int .i64 0, .int .i64 0, .int .i64 0, .int .i64 0, .int .i64 0, .int .i64 0, .int .i64 0, .int .i64 0, .int .i64 0, .int .i64 0, .int .i64 0, .int .i64 0, .int .i64 0] 32)) w2.heap.size (fnC 6 (thR (newS T V S))) 35) := hid (by
    rw [show fnC 6 (thR (newS T V S)) = #[.int .i64 0, .int .i64 0, .int .i64 0, .int .i64 0, .int .i64 0, .int .i64 0] by rw [fnC_same (thR_new T V S)]; rfl]
    exact ((Blk.new _ _ _).alloc _).alloc _)
  have HW3 : Hid (Blk (((w2.alloc (.cells #[.int .i64 0, .int .i64 0, .int .i64 0, .int .i64 0, .int .i64 0, .int .i64 0] 35)).alloc (.cells #[.int .i64 0, .int .i64 0, .int .i64 0, .int .i64 0, .int .i64 0, .int .i64 0] 35)).alloc (.cells #[.int .i64 0, .int .i64 0, .int .i64 0, .int .i64 0, .int .i64 0, .int .i64 0, .int .i64 0, .int .i64 0, .int .i64 0, .int .i64 0, .int .i64 0, .int .i64 0, .int .i64 0, .int .i64 0, .int .i64 0, .int .i64 0, .int .i64 0, .int .i64 0, .int .i64 0, .int .i64 0, .int .i64 0, .int .i64 0, .int .i64 0, .int .i64 0, .int .i64 0, .int .i64 0, .int .i64 0, .int .i64 0, .int .i64 0, .int .i64 0, .int .i64 0, .int .i64 0] 32)) (w2.heap.size + 1) (fnC 6 (fun _ => 0)) 35) := hid ((Blk.new' _ _ _ (Array.size_push ..).symm).alloc _)
  have HV3 : Hid (Blk (((w2.alloc (.cells #[.int .i64 0, .int .i64 0, .int .i64 0, .int .i64 0, .int .i64 0, .int .i64 0] 35)).alloc (.cells #[.int .i64 0, .int .i64 0, .int .i64 0, .int .i64 0, .int .i64 0, .int .i64 0] 35)).alloc (.cells #[.int .i64 0, .int .i64 0, .int .i64 0, .int .i64 0, .int .i64 0, .int .i64 0, .int .i64 0, .int .i64 0, .int .i64 0, .int .i64 0, .int .i64 0, .int .i64 0, .int .i64 0, .int .i64 0, .int .i64 0, .int .i64 0, .int .i64 0, .int .i64 0, .int .i64 0, .int .i64 0, .int .i64 0, .int .i64 0, .int .i64 0, .int .i64 0, .int .i64 0, .int .i64 0, .int .i64 0, .int .i64 0, .int .i64 0, .int .i64 0, .int .i64 0, .int .i64 0] 32)) (w2.heap.size + 1 + 1) (fnC 32 (fun _ => 0)) 32) := hid (Blk.new' _ _ _ (by show _ = ((w2.heap.push _).push _).size; rw [Array.size_push, Array.size_push]))
  clear f3
  go_loopw [3, 7] (fun top i wr => ∃ (k : Nat) (s : Sh) (wv ver : Nat → Int), k ≤ l.length ∧ top = .int .i64 s.clock ∧ i = .int .i64 (k : Int) ∧ Hid (Behind T V S l k s) ∧ Hid (VerL s wv ver) ∧ Hid (Blk wr w2.heap.size (fnC 6 (thR s)) 35) ∧ Hid (Blk wr (w2.heap.size + 1) (fnC 6 wv) 35) ∧ Hid (Blk wr (w2.heap.size + 1 + 1) (fnC 32 ver) 32) ∧ Hid (Below w.heap.size w wr) ∧ wr.cell? ⟨w.heap.size, 3, none⟩ = some (.slice a l.length cap)) (fun _ i _ => l.length - (intOf i).toNat)
  case atStart => exact ⟨0, _, _, _, Nat.zero_le _, rfl, rfl, hid (Behind.zero HZ.out l), hid (verL_new _ _ _), HR3, HW3, HV3, HB3, g3⟩
  case round =>
    obtain ⟨k, s, wv, ver, hkl, rfl, rfl, HS, HVL, HR, HWV, HVE, HBR, d3⟩ := hrel
    have HKL := hid hkl
    clear g3
    by_cases hlt : k < l.length
    · have j1 : decide ((k : Int) < (l.length : Int)) = true := by rw [decide_eq_true_iff]; omega
      have j2 : (0 : Int) ≤ (k : Int) := by omega
      have j3 : IntKind.i64.wrap ((k : Int) + 1) = (k : Int) + 1 := IntWalk.i64_in _ (by have := HL.out; omega)
      have j4 : decide (k < l.length) = true := by rw [decide_eq_true_iff]; omega
      obtain ⟨b, o, rfl, hcell⟩ := HE.out.2 (by intro h; rw [h] at hlt; simp at hlt)
      obtain ⟨s', hs⟩ := HS.out.next hlt HALL.out
      have HS2 := hid (HS.out.step hlt hs)
      obtain ⟨th', hth1, -, hth2, -, hk13, hat1, hat2, -, -, -⟩ := stepS_inv HS.out.wf hs
      obtain ⟨u6, u32, v1, v5, v7, v2, v9, vo⟩ := ver_step HS.out.wf HVL.out hs
      rcases hek : l[k] with ⟨kind, thI, tx, atI, v, x, why⟩
      have e0 := later HBR.out (hcell k hlt 0 (.int .u8 kind) (by rw [hek]; rfl))
      have e1 := later HBR.out (hcell k hlt 1 (.int .i64 thI) (by rw [hek]; rfl))
      have e2 := later HBR.out (hcell k hlt 2 (.int .i64 tx) (by rw [hek]; rfl))
      have e3 := later HBR.out (hcell k hlt 3 (.int .i64 atI) (by rw [hek]; rfl))
      have e4 := later HBR.out (hcell k hlt 4 (.int .i64 v) (by rw [hek]; rfl))
      have e5 := later HBR.out (hcell k hlt 5 (.int .i64 x) (by rw [hek]; rfl))
      have e6 := later HBR.out (hcell k hlt 6 (.int .u8 why) (by rw [hek]; rfl))
      rw [Nat.add_zero] at e0
      rw [hek] at hth1 hk13 hat1 hat2 u6 u32 v1 v5 v7 v2 v9 vo
      dsimp only at hth1 hk13 hat1 hat2 u6 u32 v1 v5 v7 v2 v9 vo
      obtain ⟨th, rfl⟩ : ∃ th : Nat, thI = (th : Int) := ⟨th', hth1⟩
      obtain ⟨at_, rfl⟩ := Int.eq_ofNat_of_zero_le hat1.1
      simp only [Int.toNat_natCast] at u6 u32 v1 v5 v7 v2 v9 vo
      have hat32 : at_ < 32 := by omega
      have ja : (0 : Int) ≤ (at_ : Int) := by omega
      have jb : (at_ : Int) < 32 := by omega
      have jt : (0 : Int) ≤ (th : Int) := by omega
      have jt2 : (th : Int) < 6 := by omega
      have HLT := hid hlt
      clear hcell hek hlt hkl hth1 hth2 hat1 hat2 hs u32
      have HA : ∀ kd : Int, Hid (Below wr.heap.size wr (wr.alloc (.cells #[.int .u8 kd, .int .i64 (th : Int), .int .i64 tx, .int .i64 (at_ : Int), .int .i64 v, .int .i64 x, .int .u8 why] 34))) := fun kd => hid (ext_alloc (ext_refl _) _)
      have hkc : kind = 1 ∨ kind = 2 ∨ kind = 3 ∨ kind = 4 ∨ kind = 5 ∨ kind = 6 ∨ kind = 7 ∨ kind = 8 ∨ kind = 9 ∨ kind = 10 ∨ kind = 11 ∨ kind = 12 ∨ kind = 13 := by omega
      clear hk13
      rcases hkc with rfl | rfl | rfl | rfl | rfl | rfl | rfl | rfl | rfl | rfl | rfl | rfl | rfl
      · -- kind 1
        have dd3 := cell_alloc (x := .cells #[.int .u8 1, .int .i64 (th : Int), .int .i64 tx, .int .i64 (at_ : Int), .int .i64 v, .int .i64 x, .int .u8 why] 34) d3
        have HB4 : Hid (Below w.heap.size w (wr.alloc (.cells #[.int .u8 1, .int .i64 (th : Int), .int .i64 tx, .int .i64 (at_ : Int), .int .i64 v, .int .i64 x, .int .u8 why] 34))) := hid (ext_trans HBR.out (HA 1).out)
        have HR4 : Hid (Blk (wr.alloc (.cells #[.int .u8 1, .int .i64 (th : Int), .int .i64 tx, .int .i64 (at_ : Int), .int .i64 v, .int .i64 x, .int .u8 why] 34)) w2.heap.size (fnC 6 (thR s)) 35) := hid (HR.out.below (HA 1).out)
        have HW4 : Hid (Blk (wr.alloc (.cells #[.int .u8 1, .int .i64 (th : Int), .int .i64 tx, .int .i64 (at_ : Int), .int .i64 v, .int .i64 x, .int .u8 why] 34)) (w2.heap.size + 1) (fnC 6 wv) 35) := hid (HWV.out.below (HA 1).out)
        have HV4 : Hid (Blk (wr.alloc (.cells #[.int .u8 1, .int .i64 (th : Int), .int .i64 tx, .int .i64 (at_ : Int), .int .i64 v, .int .i64 x, .int .u8 why] 34)) (w2.heap.size + 1 + 1) (fnC 32 ver) 32) := hid (HVE.out.below (HA 1).out)
        obtain ⟨h1, h2, h3, h4⟩ := v1 rfl
        have c := HR4.out.cell th (fnC_get 6 (thR s) th u6)
        have fz := HR4.out.free th
        have j5 : decide (v < s.clock) = false := by rw [decide_eq_false_iff_not]; omega
        have HX := hid (And.intro h2 h4)
        have HR5 := hid (HR4.out.set th (.int .i64 v))
        rw [fnC_set h3] at HR5
        have ev4 := cell_set ((Blk.new wr #[.int .u8 1, .int .i64 (th : Int), .int .i64 tx, .int .i64 (at_ : Int), .int .i64 v, .int .i64 x, .int .u8 why] 34).cell 4 rfl) ⟨w2.heap.size, th, none⟩ (.int .i64 v) (Nat.ne_of_gt HR.out.lt)
        clear v1 v5 v7 v2 v9 vo h1 h2 h3 h4
        go_wp2_with fail
        all_goals go_roundw
        case rel => exact ⟨k + 1, s', wv, ver, by have := HLT.out; omega, by rw [HX.out.1], by simp, HS2, hid HX.out.2, HR5, hid (HW4.out.set_other _ _ (by simp)), hid (HV4.out.set_other _ _ (by simp; omega)), hid (HB4.out.setCell (Nat.le_of_lt HOB.out) _), cell_set dd3 _ _ (Nat.ne_of_lt HOB.out)⟩
        case measure => have := HLT.out; simp [intOf]; omega
      · -- kind 2
        have dd3 := cell_alloc (x := .cells #[.int .u8 2, .int .i64 (th : Int), .int .i64 tx, .int .i64 (at_ : Int), .int .i64 v, .int .i64 x, .int .u8 why] 34) d3
        have HB4 : Hid (Below w.heap.size w (wr.alloc (.cells #[.int .u8 2, .int .i64 (th : Int), .int .i64 tx, .int .i64 (at_ : Int), .int .i64 v, .int .i64 x, .int .u8 why] 34))) := hid (ext_trans HBR.out (HA 2).out)
        have HR4 : Hid (Blk (wr.alloc (.cells #[.int .u8 2, .int .i64 (th : Int), .int .i64 tx, .int .i64 (at_ : Int), .int .i64 v, .int .i64 x, .int .u8 why] 34)) w2.heap.size (fnC 6 (thR s)) 35) := hid (HR.out.below (HA 2).out)
        have HW4 : Hid (Blk (wr.alloc (.cells #[.int .u8 2, .int .i64 (th : Int), .int .i64 tx, .int .i64 (at_ : Int), .int .i64 v, .int .i64 x, .int .u8 why] 34)) (w2.heap.size + 1) (fnC 6 wv) 35) := hid (HWV.out.below (HA 2).out)
        have HV4 : Hid (Blk (wr.alloc (.cells #[.int .u8 2, .int .i64 (th : Int), .int .i64 tx, .int .i64 (at_ : Int), .int .i64 v, .int .i64 x, .int .u8 why] 34)) (w2.heap.size + 1 + 1) (fnC 32 ver) 32) := hid (HVE.out.below (HA 2).out)
        obtain ⟨h1, h2⟩ := v2 rfl
        have c := HR4.out.cell th (fnC_get 6 (thR s) th u6)
        have c2 := HV4.out.cell at_ (fnC_get 32 ver at_ hat32)
        have j5 : decide (thR s th < v) = false := by rw [decide_eq_false_iff_not]; omega
        have j6 : decide (v < ver at_) = false := by rw [decide_eq_false_iff_not]; omega
        have HX := hid (vo (by decide) (by decide) (by decide))
        clear v1 v5 v7 v2 v9 vo h1 h2
        go_wp2_with fail
        go_quiet (fail)
        go_wp2_with fail
        all_goals go_roundw
        case rel => exact ⟨k + 1, s', wv, ver, by have := HLT.out; omega, by rw [HX.out.1], by simp, HS2, hid HX.out.2.2, hid (by rw [fnC_same HX.out.2.1]; exact HR4.out.below (ext_drewN (ext_refl _) _)), hid (HW4.out.below (ext_drewN (ext_refl _) _)), hid (HV4.out.below (ext_drewN (ext_refl _) _)), hid (ext_trans HB4.out (ext_drewN (ext_refl _) _)), later (ext_drewN (ext_refl _) _) dd3⟩
        case measure => have := HLT.out; simp [intOf]; omega
      · -- kind 3
        have dd3 := cell_alloc (x := .cells #[.int .u8 3, .int .i64 (th : Int), .int .i64 tx, .int .i64 (at_ : Int), .int .i64 v, .int .i64 x, .int .u8 why] 34) d3
        have HB4 : Hid (Below w.heap.size w (wr.alloc (.cells #[.int .u8 3, .int .i64 (th : Int), .int .i64 tx, .int .i64 (at_ : Int), .int .i64 v, .int .i64 x, .int .u8 why] 34))) := hid (ext_trans HBR.out (HA 3).out)
        have HR4 : Hid (Blk (wr.alloc (.cells #[.int .u8 3, .int .i64 (th : Int), .int .i64 tx, .int .i64 (at_ : Int), .int .i64 v, .int .i64 x, .int .u8 why] 34)) w2.heap.size (fnC 6 (thR s)) 35) := hid (HR.out.below (HA 3).out)
        have HW4 : Hid (Blk (wr.alloc (.cells #[.int .u8 3, .int .i64 (th : Int), .int .i64 tx, .int .i64 (at_ : Int), .int .i64 v, .int .i64 x, .int .u8 why] 34)) (w2.heap.size + 1) (fnC 6 wv) 35) := hid (HWV.out.below (HA 3).out)
        have HV4 : Hid (Blk (wr.alloc (.cells #[.int .u8 3, .int .i64 (th : Int), .int .i64 tx, .int .i64 (at_ : Int), .int .i64 v, .int .i64 x, .int .u8 why] 34)) (w2.heap.size + 1 + 1) (fnC 32 ver) 32) := hid (HVE.out.below (HA 3).out)
        have HX := hid (vo (by decide) (by decide) (by decide))
        clear v1 v5 v7 v2 v9 vo
        go_wp2_with fail
        all_goals go_roundw
        case rel => exact ⟨k + 1, s', wv, ver, by have := HLT.out; omega, by rw [HX.out.1], by simp, HS2, hid HX.out.2.2, hid (by rw [fnC_same HX.out.2.1]; exact HR4.out), HW4, HV4, HB4, dd3⟩
        case measure => have := HLT.out; simp [intOf]; omega
      · -- kind 4
        have dd3 := cell_alloc (x := .cells #[.int .u8 4, .int .i64 (th : Int), .int .i64 tx, .int .i64 (at_ : Int), .int .i64 v, .int .i64 x, .int .u8 why] 34) d3
        have HB4 : Hid (Below w.heap.size w (wr.alloc (.cells #[.int .u8 4, .int .i64 (th : Int), .int .i64 tx, .int .i64 (at_ : Int), .int .i64 v, .int .i64 x, .int .u8 why] 34))) := hid (ext_trans HBR.out (HA 4).out)
        have HR4 : Hid (Blk (wr.alloc (.cells #[.int .u8 4, .int .i64 (th : Int), .int .i64 tx, .int .i64 (at_ : Int), .int .i64 v, .int .i64 x, .int .u8 why] 34)) w2.heap.size (fnC 6 (thR s)) 35) := hid (HR.out.below (HA 4).out)
        have HW4 : Hid (Blk (wr.alloc (.cells #[.int .u8 4, .int .i64 (th : Int), .int .i64 tx, .int .i64 (at_ : Int), .int .i64 v, .int .i64 x, .int .u8 why] 34)) (w2.heap.size + 1) (fnC 6 wv) 35) := hid (HWV.out.below (HA 4).out)
        have HV4 : Hid (Blk (wr.alloc (.cells #[.int .u8 4, .int .i64 (th : Int), .int .i64 tx, .int .i64 (at_ : Int), .int .i64 v, .int .i64 x, .int .u8 why] 34)) (w2.heap.size + 1 + 1) (fnC 32 ver) 32) := hid (HVE.out.below (HA 4).out)
        have HX := hid (vo (by decide) (by decide) (by decide))
        clear v1 v5 v7 v2 v9 vo
        go_wp2_with fail
        all_goals go_roundw
        case rel => exact ⟨k + 1, s', wv, ver, by have := HLT.out; omega, by rw [HX.out.1], by simp, HS2, hid HX.out.2.2, hid (by rw [fnC_same HX.out.2.1]; exact HR4.out), HW4, HV4, HB4, dd3⟩
        case measure => have := HLT.out; simp [intOf]; omega
      · -- kind 5
        have dd3 := cell_alloc (x := .cells #[.int .u8 5, .int .i64 (th : Int), .int .i64 tx, .int .i64 (at_ : Int), .int .i64 v, .int .i64 x, .int .u8 why] 34) d3
        have HB4 : Hid (Below w.heap.size w (wr.alloc (.cells #[.int .u8 5, .int .i64 (th : Int), .int .i64 tx, .int .i64 (at_ : Int), .int .i64 v, .int .i64 x, .int .u8 why] 34))) := hid (ext_trans HBR.out (HA 5).out)
        have HR4 : Hid (Blk (wr.alloc (.cells #[.int .u8 5, .int .i64 (th : Int), .int .i64 tx, .int .i64 (at_ : Int), .int .i64 v, .int .i64 x, .int .u8 why] 34)) w2.heap.size (fnC 6 (thR s)) 35) := hid (HR.out.below (HA 5).out)
        have HW4 : Hid (Blk (wr.alloc (.cells #[.int .u8 5, .int .i64 (th : Int), .int .i64 tx, .int .i64 (at_ : Int), .int .i64 v, .int .i64 x, .int .u8 why] 34)) (w2.heap.size + 1) (fnC 6 wv) 35) := hid (HWV.out.below (HA 5).out)
        have HV4 : Hid (Blk (wr.alloc (.cells #[.int .u8 5, .int .i64 (th : Int), .int .i64 tx, .int .i64 (at_ : Int), .int .i64 v, .int .i64 x, .int .u8 why] 34)) (w2.heap.size + 1 + 1) (fnC 32 ver) 32) := hid (HVE.out.below (HA 5).out)
        obtain ⟨h1, h2, h3, h4⟩ := v5 rfl
        have c := HW4.out.cell th (fnC_get 6 wv th u6)
        have fz := HW4.out.free th
        have j5 : decide (v ≤ s.clock) = false := by rw [decide_eq_false_iff_not]; omega
        have HX := hid (And.intro h2 h4)
        have HY := hid h3
        have HW5 := hid (HW4.out.set th (.int .i64 v))
        rw [fnC_set (f' := upd wv th v) (fun i => rfl)] at HW5
        have ev4 := cell_set ((Blk.new wr #[.int .u8 5, .int .i64 (th : Int), .int .i64 tx, .int .i64 (at_ : Int), .int .i64 v, .int .i64 x, .int .u8 why] 34).cell 4 rfl) ⟨w2.heap.size + 1, th, none⟩ (.int .i64 v) (Nat.ne_of_gt HWV.out.lt)
        clear v1 v5 v7 v2 v9 vo h1 h2 h3 h4
        go_wp2_with fail
        all_goals go_roundw
        case rel => exact ⟨k + 1, s', upd wv th v, ver, by have := HLT.out; omega, by rw [HX.out.1], by simp, HS2, hid HX.out.2, hid (by rw [fnC_same HY.out]; exact HR4.out.set_other _ _ (by simp)), HW5, hid (HV4.out.set_other _ _ (by simp)), hid (HB4.out.setCell (by have := HOB.out; simp; omega) _), cell_set dd3 _ _ (by have := HOB.out; simp; omega)⟩
        case measure => have := HLT.out; simp [intOf]; omega
      · -- kind 6
        have dd3 := cell_alloc (x := .cells #[.int .u8 6, .int .i64 (th : Int), .int .i64 tx, .int .i64 (at_ : Int), .int .i64 v, .int .i64 x, .int .u8 why] 34) d3
        have HB4 : Hid (Below w.heap.size w (wr.alloc (.cells #[.int .u8 6, .int .i64 (th : Int), .int .i64 tx, .int .i64 (at_ : Int), .int .i64 v, .int .i64 x, .int .u8 why] 34))) := hid (ext_trans HBR.out (HA 6).out)
        have HR4 : Hid (Blk (wr.alloc (.cells #[.int .u8 6, .int .i64 (th : Int), .int .i64 tx, .int .i64 (at_ : Int), .int .i64 v, .int .i64 x, .int .u8 why] 34)) w2.heap.size (fnC 6 (thR s)) 35) := hid (HR.out.below (HA 6).out)
        have HW4 : Hid (Blk (wr.alloc (.cells #[.int .u8 6, .int .i64 (th : Int), .int .i64 tx, .int .i64 (at_ : Int), .int .i64 v, .int .i64 x, .int .u8 why] 34)) (w2.heap.size + 1) (fnC 6 wv) 35) := hid (HWV.out.below (HA 6).out)
        have HV4 : Hid (Blk (wr.alloc (.cells #[.int .u8 6, .int .i64 (th : Int), .int .i64 tx, .int .i64 (at_ : Int), .int .i64 v, .int .i64 x, .int .u8 why] 34)) (w2.heap.size + 1 + 1) (fnC 32 ver) 32) := hid (HVE.out.below (HA 6).out)
        have HX := hid (vo (by decide) (by decide) (by decide))
        clear v1 v5 v7 v2 v9 vo
        go_wp2_with fail
        all_goals go_roundw
        case rel => exact ⟨k + 1, s', wv, ver, by have := HLT.out; omega, by rw [HX.out.1], by simp, HS2, hid HX.out.2.2, hid (by rw [fnC_same HX.out.2.1]; exact HR4.out), HW4, HV4, HB4, dd3⟩
        case measure => have := HLT.out; simp [intOf]; omega
      · -- kind 7
        have dd3 := cell_alloc (x := .cells #[.int .u8 7, .int .i64 (th : Int), .int .i64 tx, .int .i64 (at_ : Int), .int .i64 v, .int .i64 x, .int .u8 why] 34) d3
        have HB4 : Hid (Below w.heap.size w (wr.alloc (.cells #[.int .u8 7, .int .i64 (th : Int), .int .i64 tx, .int .i64 (at_ : Int), .int .i64 v, .int .i64 x, .int .u8 why] 34))) := hid (ext_trans HBR.out (HA 7).out)
        have HR4 : Hid (Blk (wr.alloc (.cells #[.int .u8 7, .int .i64 (th : Int), .int .i64 tx, .int .i64 (at_ : Int), .int .i64 v, .int .i64 x, .int .u8 why] 34)) w2.heap.size (fnC 6 (thR s)) 35) := hid (HR.out.below (HA 7).out)
        have HW4 : Hid (Blk (wr.alloc (.cells #[.int .u8 7, .int .i64 (th : Int), .int .i64 tx, .int .i64 (at_ : Int), .int .i64 v, .int .i64 x, .int .u8 why] 34)) (w2.heap.size + 1) (fnC 6 wv) 35) := hid (HWV.out.below (HA 7).out)
        have HV4 : Hid (Blk (wr.alloc (.cells #[.int .u8 7, .int .i64 (th : Int), .int .i64 tx, .int .i64 (at_ : Int), .int .i64 v, .int .i64 x, .int .u8 why] 34)) (w2.heap.size + 1 + 1) (fnC 32 ver) 32) := hid (HVE.out.below (HA 7).out)
        have c := HW4.out.cell th (fnC_get 6 wv th u6)
        have HX := hid (vo (by decide) (by decide) (by decide))
        by_cases hv0 : v = 0
        · have j5 : (v != 0) = false := by simp [hv0]
          clear v1 v5 v7 v2 v9 vo hv0
          go_wp2_with fail
          go_quiet (fail)
          go_wp2_with fail
          all_goals go_roundw
          case rel => exact ⟨k + 1, s', wv, ver, by have := HLT.out; omega, by rw [HX.out.1], by simp, HS2, hid HX.out.2.2, hid (by rw [fnC_same HX.out.2.1]; exact HR4.out.below (ext_drewN (ext_refl _) _)), hid (HW4.out.below (ext_drewN (ext_refl _) _)), hid (HV4.out.below (ext_drewN (ext_refl _) _)), hid (ext_trans HB4.out (ext_drewN (ext_refl _) _)), later (ext_drewN (ext_refl _) _) dd3⟩
          case measure => have := HLT.out; simp [intOf]; omega
        · have j5 : (v != 0) = true := by simp [hv0]
          rw [← v7 rfl hv0] at c
          have j6 : (v != v) = false := by simp
          clear v1 v5 v7 v2 v9 vo hv0
          go_wp2_with fail
          go_quiet (fail)
          go_wp2_with fail
          all_goals go_roundw
          case rel => exact ⟨k + 1, s', wv, ver, by have := HLT.out; omega, by rw [HX.out.1], by simp, HS2, hid HX.out.2.2, hid (by rw [fnC_same HX.out.2.1]; exact HR4.out.below (ext_drewN (ext_refl _) _)), hid (HW4.out.below (ext_drewN (ext_refl _) _)), hid (HV4.out.below (ext_drewN (ext_refl _) _)), hid (ext_trans HB4.out (ext_drewN (ext_refl _) _)), later (ext_drewN (ext_refl _) _) dd3⟩
          case measure => have := HLT.out; simp [intOf]; omega
      · -- kind 8
        have dd3 := cell_alloc (x := .cells #[.int .u8 8, .int .i64 (th : Int), .int .i64 tx, .int .i64 (at_ : Int), .int .i64 v, .int .i64 x, .int .u8 why] 34) d3
        have HB4 : Hid (Below w.heap.size w (wr.alloc (.cells #[.int .u8 8, .int .i64 (th : Int), .int .i64 tx, .int .i64 (at_ : Int), .int .i64 v, .int .i64 x, .int .u8 why] 34))) := hid (ext_trans HBR.out (HA 8).out)
        have HR4 : Hid (Blk (wr.alloc (.cells #[.int .u8 8, .int .i64 (th : Int), .int .i64 tx, .int .i64 (at_ : Int), .int .i64 v, .int .i64 x, .int .u8 why] 34)) w2.heap.size (fnC 6 (thR s)) 35) := hid (HR.out.below (HA 8).out)
        have HW4 : Hid (Blk (wr.alloc (.cells #[.int .u8 8, .int .i64 (th : Int), .int .i64 tx, .int .i64 (at_ : Int), .int .i64 v, .int .i64 x, .int .u8 why] 34)) (w2.heap.size + 1) (fnC 6 wv) 35) := hid (HWV.out.below (HA 8).out)
        have HV4 : Hid (Blk (wr.alloc (.cells #[.int .u8 8, .int .i64 (th : Int), .int .i64 tx, .int .i64 (at_ : Int), .int .i64 v, .int .i64 x, .int .u8 why] 34)) (w2.heap.size + 1 + 1) (fnC 32 ver) 32) := hid (HVE.out.below (HA 8).out)
        have HX := hid (vo (by decide) (by decide) (by decide))
        clear v1 v5 v7 v2 v9 vo
        go_wp2_with fail
        all_goals go_roundw
        case rel => exact ⟨k + 1, s', wv, ver, by have := HLT.out; omega, by rw [HX.out.1], by simp, HS2, hid HX.out.2.2, hid (by rw [fnC_same HX.out.2.1]; exact HR4.out), HW4, HV4, HB4, dd3⟩
        case measure => have := HLT.out; simp [intOf]; omega
      · -- kind 9
        have dd3 := cell_alloc (x := .cells #[.int .u8 9, .int .i64 (th : Int), .int .i64 tx, .int .i64 (at_ : Int), .int .i64 v, .int .i64 x, .int .u8 why] 34) d3
        have HB4 : Hid (Below w.heap.size w (wr.alloc (.cells #[.int .u8 9, .int .i64 (th : Int), .int .i64 tx, .int .i64 (at_ : Int), .int .i64 v, .int .i64 x, .int .u8 why] 34))) := hid (ext_trans HBR.out (HA 9).out)
        have HR4 : Hid (Blk (wr.alloc (.cells #[.int .u8 9, .int .i64 (th : Int), .int .i64 tx, .int .i64 (at_ : Int), .int .i64 v, .int .i64 x, .int .u8 why] 34)) w2.heap.size (fnC 6 (thR s)) 35) := hid (HR.out.below (HA 9).out)
        have HW4 : Hid (Blk (wr.alloc (.cells #[.int .u8 9, .int .i64 (th : Int), .int .i64 tx, .int .i64 (at_ : Int), .int .i64 v, .int .i64 x, .int .u8 why] 34)) (w2.heap.size + 1) (fnC 6 wv) 35) := hid (HWV.out.below (HA 9).out)
        have HV4 : Hid (Blk (wr.alloc (.cells #[.int .u8 9, .int .i64 (th : Int), .int .i64 tx, .int .i64 (at_ : Int), .int .i64 v, .int .i64 x, .int .u8 why] 34)) (w2.heap.size + 1 + 1) (fnC 32 ver) 32) := hid (HVE.out.below (HA 9).out)
        obtain ⟨h1, h2, h3, h4⟩ := v9 rfl
        have c := HW4.out.cell th (fnC_get 6 wv th u6)
        have c2 := HV4.out.cell at_ (fnC_get 32 ver at_ hat32)
        have fz := HV4.out.free at_
        have j5 : decide (wv th ≤ ver at_) = false := by rw [decide_eq_false_iff_not]; omega
        have HX := hid (And.intro h2 h4)
        have HY := hid h3
        clear v1 v5 v7 v2 v9 vo h1 h2 h3 h4
        go_wp2_with fail
        go_quiet (fail)
        go_wp2_with fail
        go_region
        all_goals go_wp2_with fail
        all_goals go_roundw
        case rel => exact ⟨k + 1, s', wv, upd ver at_ (wv th), by have := HLT.out; omega, by rw [HX.out.1], by simp, HS2, hid HX.out.2, hid (by rw [fnC_same HY.out]; exact ((HR4.out.below (ext_drewN (ext_refl _) _)).set_other _ _ (by simp; omega))), hid ((HW4.out.below (ext_drewN (ext_refl _) _)).set_other _ _ (by simp)), hid (verB (HV4.out.below (ext_drewN (ext_refl _) _))), hid ((ext_trans HB4.out (ext_drewN (ext_refl _) _)).setCell (p := ⟨w2.heap.size + 1 + 1, at_, none⟩) (by have := HOB.out; simp; omega) _), cell_set (later (ext_drewN (ext_refl _) _) dd3) ⟨w2.heap.size + 1 + 1, at_, none⟩ _ (by have := HOB.out; simp; omega)⟩
        case measure => have := HLT.out; simp [intOf]; omega
      · -- kind 10
        have dd3 := cell_alloc (x := .cells #[.int .u8 10, .int .i64 (th : Int), .int .i64 tx, .int .i64 (at_ : Int), .int .i64 v, .int .i64 x, .int .u8 why] 34) d3
        have HB4 : Hid (Below w.heap.size w (wr.alloc (.cells #[.int .u8 10, .int .i64 (th : Int), .int .i64 tx, .int .i64 (at_ : Int), .int .i64 v, .int .i64 x, .int .u8 why] 34))) := hid (ext_trans HBR.out (HA 10).out)
        have HR4 : Hid (Blk (wr.alloc (.cells #[.int .u8 10, .int .i64 (th : Int), .int .i64 tx, .int .i64 (at_ : Int), .int .i64 v, .int .i64 x, .int .u8 why] 34)) w2.heap.size (fnC 6 (thR s)) 35) := hid (HR.out.below (HA 10).out)
        have HW4 : Hid (Blk (wr.alloc (.cells #[.int .u8 10, .int .i64 (th : Int), .int .i64 tx, .int .i64 (at_ : Int), .int .i64 v, .int .i64 x, .int .u8 why] 34)) (w2.heap.size + 1) (fnC 6 wv) 35) := hid (HWV.out.below (HA 10).out)
        have HV4 : Hid (Blk (wr.alloc (.cells #[.int .u8 10, .int .i64 (th : Int), .int .i64 tx, .int .i64 (at_ : Int), .int .i64 v, .int .i64 x, .int .u8 why] 34)) (w2.heap.size + 1 + 1) (fnC 32 ver) 32) := hid (HVE.out.below (HA 10).out)
        have HX := hid (vo (by decide) (by decide) (by decide))
        clear v1 v5 v7 v2 v9 vo
        go_wp2_with fail
        all_goals go_roundw
        case rel => exact ⟨k + 1, s', wv, ver, by have := HLT.out; omega, by rw [HX.out.1], by simp, HS2, hid HX.out.2.2, hid (by rw [fnC_same HX.out.2.1]; exact HR4.out), HW4, HV4, HB4, dd3⟩
        case measure => have := HLT.out; simp [intOf]; omega
      · -- kind 11
        have dd3 := cell_alloc (x := .cells #[.int .u8 11, .int .i64 (th : Int), .int .i64 tx, .int .i64 (at_ : Int), .int .i64 v, .int .i64 x, .int .u8 why] 34) d3
        have HB4 : Hid (Below w.heap.size w (wr.alloc (.cells #[.int .u8 11, .int .i64 (th : Int), .int .i64 tx, .int .i64 (at_ : Int), .int .i64 v, .int .i64 x, .int .u8 why] 34))) := hid (ext_trans HBR.out (HA 11).out)
        have HR4 : Hid (Blk (wr.alloc (.cells #[.int .u8 11, .int .i64 (th : Int), .int .i64 tx, .int .i64 (at_ : Int), .int .i64 v, .int .i64 x, .int .u8 why] 34)) w2.heap.size (fnC 6 (thR s)) 35) := hid (HR.out.below (HA 11).out)
        have HW4 : Hid (Blk (wr.alloc (.cells #[.int .u8 11, .int .i64 (th : Int), .int .i64 tx, .int .i64 (at_ : Int), .int .i64 v, .int .i64 x, .int .u8 why] 34)) (w2.heap.size + 1) (fnC 6 wv) 35) := hid (HWV.out.below (HA 11).out)
        have HV4 : Hid (Blk (wr.alloc (.cells #[.int .u8 11, .int .i64 (th : Int), .int .i64 tx, .int .i64 (at_ : Int), .int .i64 v, .int .i64 x, .int .u8 why] 34)) (w2.heap.size + 1 + 1) (fnC 32 ver) 32) := hid (HVE.out.below (HA 11).out)
        have HX := hid (vo (by decide) (by decide) (by decide))
        clear v1 v5 v7 v2 v9 vo
        go_wp2_with fail
        all_goals go_roundw
        case rel => exact ⟨k + 1, s', wv, ver, by have := HLT.out; omega, by rw [HX.out.1], by simp, HS2, hid HX.out.2.2, hid (by rw [fnC_same HX.out.2.1]; exact HR4.out), HW4, HV4, HB4, dd3⟩
        case measure => have := HLT.out; simp [intOf]; omega
      · -- kind 12
        have dd3 := cell_alloc (x := .cells #[.int .u8 12, .int .i64 (th : Int), .int .i64 tx, .int .i64 (at_ : Int), .int .i64 v, .int .i64 x, .int .u8 why] 34) d3
        have HB4 : Hid (Below w.heap.size w (wr.alloc (.cells #[.int .u8 12, .int .i64 (th : Int), .int .i64 tx, .int .i64 (at_ : Int), .int .i64 v, .int .i64 x, .int .u8 why] 34))) := hid (ext_trans HBR.out (HA 12).out)
        have HR4 : Hid (Blk (wr.alloc (.cells #[.int .u8 12, .int .i64 (th : Int), .int .i64 tx, .int .i64 (at_ : Int), .int .i64 v, .int .i64 x, .int .u8 why] 34)) w2.heap.size (fnC 6 (thR s)) 35) := hid (HR.out.below (HA 12).out)
        have HW4 : Hid (Blk (wr.alloc (.cells #[.int .u8 12, .int .i64 (th : Int), .int .i64 tx, .int .i64 (at_ : Int), .int .i64 v, .int .i64 x, .int .u8 why] 34)) (w2.heap.size + 1) (fnC 6 wv) 35) := hid (HWV.out.below (HA 12).out)
        have HV4 : Hid (Blk (wr.alloc (.cells #[.int .u8 12, .int .i64 (th : Int), .int .i64 tx, .int .i64 (at_ : Int), .int .i64 v, .int .i64 x, .int .u8 why] 34)) (w2.heap.size + 1 + 1) (fnC 32 ver) 32) := hid (HVE.out.below (HA 12).out)
        have HX := hid (vo (by decide) (by decide) (by decide))
        clear v1 v5 v7 v2 v9 vo
        go_wp2_with fail
        all_goals go_roundw
        case rel => exact ⟨k + 1, s', wv, ver, by have := HLT.out; omega, by rw [HX.out.1], by simp, HS2, hid HX.out.2.2, hid (by rw [fnC_same HX.out.2.1]; exact HR4.out), HW4, HV4, HB4, dd3⟩
        case measure => have := HLT.out; simp [intOf]; omega
      · -- kind 13
        have dd3 := cell_alloc (x := .cells #[.int .u8 13, .int .i64 (th : Int), .int .i64 tx, .int .i64 (at_ : Int), .int .i64 v, .int .i64 x, .int .u8 why] 34) d3
        have HB4 : Hid (Below w.heap.size w (wr.alloc (.cells #[.int .u8 13, .int .i64 (th : Int), .int .i64 tx, .int .i64 (at_ : Int), .int .i64 v, .int .i64 x, .int .u8 why] 34))) := hid (ext_trans HBR.out (HA 13).out)
        have HR4 : Hid (Blk (wr.alloc (.cells #[.int .u8 13, .int .i64 (th : Int), .int .i64 tx, .int .i64 (at_ : Int), .int .i64 v, .int .i64 x, .int .u8 why] 34)) w2.heap.size (fnC 6 (thR s)) 35) := hid (HR.out.below (HA 13).out)
        have HW4 : Hid (Blk (wr.alloc (.cells #[.int .u8 13, .int .i64 (th : Int), .int .i64 tx, .int .i64 (at_ : Int), .int .i64 v, .int .i64 x, .int .u8 why] 34)) (w2.heap.size + 1) (fnC 6 wv) 35) := hid (HWV.out.below (HA 13).out)
        have HV4 : Hid (Blk (wr.alloc (.cells #[.int .u8 13, .int .i64 (th : Int), .int .i64 tx, .int .i64 (at_ : Int), .int .i64 v, .int .i64 x, .int .u8 why] 34)) (w2.heap.size + 1 + 1) (fnC 32 ver) 32) := hid (HVE.out.below (HA 13).out)
        have HX := hid (vo (by decide) (by decide) (by decide))
        clear v1 v5 v7 v2 v9 vo
        go_wp2_with fail
        all_goals go_roundw
        case rel => exact ⟨k + 1, s', wv, ver, by have := HLT.out; omega, by rw [HX.out.1], by simp, HS2, hid HX.out.2.2, hid (by rw [fnC_same HX.out.2.1]; exact HR4.out), HW4, HV4, HB4, dd3⟩
        case measure => have := HLT.out; simp [intOf]; omega
    · obtain rfl : k = l.length := by omega
      have j1 : decide ((l.length : Int) < (l.length : Int)) = false := by rw [decide_eq_false_iff_not]; omega
      have j4 : decide (l.length < l.length) = false := by rw [decide_eq_false_iff_not]; omega
      go_wp2_with fail
      go_ret
      exact ⟨rfl, HBR.out⟩
theorem shapeVersions_any (T V S : Int) (a : Option Addr) (l : List Ev) (cap : Nat) (w : World) (hE : EvsAt w a l) (hK : KindsAt w) (hT : TabOk w) :
    Calls Tryd.prog 6 #[trA T V S a l.length cap] w fun e w' => e = .returned (.bool true) ∧ Below w.heap.size w w' := by
  by_cases hl : 2000 < l.length
  · exact vers_great T V S a _ cap w hl hK hT
  have hl' : l.length ≤ 2000 := by omega
  cases hf : fineT T V S l with
  | false => exact vers_no T V S a l cap w hl' hf hE hK hT
  | true =>
    obtain ⟨h1, h2, h3, h4, h5, h6⟩ := sizeOk_of (fineT_of hl' hf).1
    obtain ⟨T, rfl⟩ := Int.eq_ofNat_of_zero_le h1
    obtain ⟨V, rfl⟩ := Int.eq_ofNat_of_zero_le (show 0 ≤ V by omega)
    obtain ⟨S, rfl⟩ := Int.eq_ofNat_of_zero_le (show 0 ≤ S by omega)
    exact vers_loop T V S a l cap w hl' hf hE hK hT
end Go.Proofs.YtmgchpijkdammaaDoor
