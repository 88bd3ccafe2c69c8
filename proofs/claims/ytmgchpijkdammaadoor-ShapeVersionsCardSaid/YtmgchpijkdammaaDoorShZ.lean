/-
  The law ShapeOwner: its walk.
-/
import Derived.Test.YtmgchpijkdammaaDoorShY
import Derived.Test.YtmgchpijkdammaaDoorShP
namespace Go.Proofs.YtmgchpijkdammaaDoor
set_option linter.unusedVariables false
set_option linter.unusedSimpArgs false
open Go Go.RowKit
/-- The owners as the law keeps them. -/
def ownC (s : Sh) : Array Value := ((List.range 32).map fun j => Value.int .i64 (stO s j + 1)).toArray
theorem ownC_get (s : Sh) (j : Nat) (hj : j < 32) : (ownC s)[j]? = some (.int .i64 (stO s j + 1)) := by
  unfold ownC
  rw [List.getElem?_toArray, List.getElem?_map, List.getElem?_range hj]; rfl
theorem ownC_set {s s' : Sh} {j : Nat} {x : Int} (h : ∀ i, stO s' i = if i = j then x else stO s i) : (ownC s).setIfInBounds j (.int .i64 (x + 1)) = ownC s' := by
  apply Array.ext
  · simp [ownC]
  · intro i h1 h2
    have hi : i < 32 := by simpa [ownC] using h2
    have e1 := ownC_get s i hi
    have e2 := ownC_get s' i hi
    rw [Array.getElem?_eq_getElem h2] at e2
    rw [Option.some.inj e2, Array.getElem_setIfInBounds (by simpa [ownC] using hi), h i]
    by_cases hij : j = i
    · subst hij; simp
    · rw [if_neg hij, if_neg (Ne.symm hij)]
      rw [Array.getElem?_eq_getElem (by simpa [ownC] using hi)] at e1
      exact Option.some.inj e1
theorem ownC_same {s s' : Sh} (h : ∀ i, stO s' i = stO s i) : ownC s' = ownC s := by unfold ownC; simp only [h]
theorem ownC_new (T V S : Int) : ownC (newS T V S) = #[.int .i64 0, .int .i64 0, .int .i64 0, .int .i64 0, .int .i64 0, .int .i64 0, .int .i64 0, .int .i64 0, .int .i64 0, .int .i64 0, .int .i64 0, .int .i64 0, .int .i64 0, .int .i64 0, .int .i64 0, .int .i64 0, .int .i64 0, .int .i64 0, .int .i64 0, .int .i64 0, .int .i64 0, .int .i64 0, .int .i64 0, .int .i64 0, .int .i64 0, .int .i64 0, .int .i64 0, .int .i64 0, .int .i64 0, .int .i64 0, .int .i64 0, .int .i64 0] := by
  have h : ∀ j, stO (newS T V S) j = -1 := by
    intro j
    unfold stO newS
    simp only [List.getD_eq_getElem?_getD, List.getElem?_replicate]
    split <;> rfl
  unfold ownC
  simp only [h]
  rfl
theorem fineT_of {T V S : Int} {l : List Ev} (hl : l.length ≤ 2000) (h : fineT T V S l = true) : sizeOk T V S = true ∧ comesS (newS T V S) l = l.length := by
  unfold fineT at h
  rw [decide_eq_true_iff] at h
  rcases checkT_cases T V S l hl with ⟨h1, h2⟩ | ⟨hz, c, h1, h2, h3⟩
  · rw [h1] at h; simp at h
  · rcases h3 with ⟨h3, -⟩ | ⟨h3, h4⟩
    · exact ⟨hz, by omega⟩
    · rw [h4] at h; simp at h
/-- Where all events come each step does. -/
theorem Behind.next {T V S : Int} {l : List Ev} {i : Nat} {s : Sh} (h : Behind T V S l i s) (hi : i < l.length) (hall : comesS (newS T V S) l = l.length) : ∃ s', stepS s l[i] = some s' := by
  cases hs : stepS s l[i] with
  | some s' => exact ⟨s', rfl⟩
  | none => have := h.bad hi hs; omega
theorem ownB {W : World} {b : Nat} {s s' : Sh} {j : Nat} {t : TypeId} (h : Blk W b (ownC s) t) (h2 : ∀ i, stO s' i = if i = j then -1 else stO s i) : Blk (W.setCell ⟨b, j, none⟩ (.int .i64 0)) b (ownC s') t := by
  have := h.set j (.int .i64 (-1 + 1))
  rw [ownC_set h2] at this
  exact this
set_option maxRecDepth 100000 in
set_option maxHeartbeats 4000000 in
theorem owner_great (T V S : Int) (a : Option Addr) (len cap : Nat) (w : World) (hl : 2000 < len) (hK : KindsAt w) (hT : TabOk w) :
    Calls Tryd.prog 5 #[trA T V S a len cap] w fun e w' => e = .returned (.bool true) ∧ Below w.heap.size w w' := by
  have HW := hid (fun W (hW : Below w.heap.size w W) => works_any W (hK.below hW) (hT.below hW))
  have j : decide ((2000 : Int) < (len : Int)) = true := by rw [decide_eq_true_iff]; omega
  clear hl hK hT
  dsimp only [trA]
  have HB : Hid (Below w.heap.size w (w.alloc (.cells #[.int .i64 T, .int .i64 V, .int .i64 S, .slice a len cap] 24))) := hid (ext_alloc (ext_refl _) _)
  have d := (Blk.new w #[.int .i64 T, .int .i64 V, .int .i64 S, .slice a len cap] 24).cell 3 rfl
  go_enter Tryd.func5, Tryd.ntmps5
  go_wp2_with fail
  refine (HW.out _ HB.out).mono ?_
  rintro e' w1 ⟨rfl, hb1⟩
  have d3 := later hb1 d
  have HB1 := hid (ext_trans HB.out hb1)
  clear hb1 d
  go_wp2_with fail
  refine (HW.out _ HB1.out).mono ?_
  rintro e' w2 ⟨rfl, hb2⟩
  have HB2 := hid (ext_trans HB1.out hb2)
  clear hb2
  go_wp2_with fail
  go_ret
  exact ⟨rfl, HB2.out⟩
set_option maxRecDepth 100000 in
set_option maxHeartbeats 4000000 in
theorem owner_no (T V S : Int) (a : Option Addr) (l : List Ev) (cap : Nat) (w : World) (hl : l.length ≤ 2000) (hf : fineT T V S l = false) (hE : EvsAt w a l) (hK : KindsAt w) (hT : TabOk w) :
    Calls Tryd.prog 5 #[trA T V S a l.length cap] w fun e w' => e = .returned (.bool true) ∧ Below w.heap.size w w' := by
  have HW := hid (fun W (hW : Below w.heap.size w W) => works_any W (hK.below hW) (hT.below hW))
  have HC := hid (fun W (hW : Below w.heap.size w W) => fine_any T V S a l cap W (hE.below hW) (by omega) (hK.below hW) (hT.below hW))
  rw [hf] at HC
  have j : decide ((2000 : Int) < (l.length : Int)) = false := by rw [decide_eq_false_iff_not]; omega
  clear hl hK hT hE hf
  dsimp only [trA] at HC ⊢
  have HB : Hid (Below w.heap.size w (w.alloc (.cells #[.int .i64 T, .int .i64 V, .int .i64 S, .slice a l.length cap] 24))) := hid (ext_alloc (ext_refl _) _)
  have d := Blk.new w #[.int .i64 T, .int .i64 V, .int .i64 S, .slice a l.length cap] 24
  go_enter Tryd.func5, Tryd.ntmps5
  go_wp2_with fail
  refine (HW.out _ HB.out).mono ?_
  rintro e' w1 ⟨rfl, hb1⟩
  have d0 := later hb1 (d.cell 0 rfl)
  have d1 := later hb1 (d.cell 1 rfl)
  have d2 := later hb1 (d.cell 2 rfl)
  have d3 := later hb1 (d.cell 3 rfl)
  have HB1 := hid (ext_trans HB.out hb1)
  clear hb1 d
  go_wp2_with fail
  refine (HC.out _ HB1.out).mono ?_
  rintro e' w2 ⟨rfl, hb2⟩
  have HB2 := hid (ext_trans HB1.out hb2)
  clear hb2
  go_wp2_with fail
  go_ret
  exact ⟨rfl, HB2.out⟩
set_option maxRecDepth 100000 in
set_option maxHeartbeats 4000000 in
theorem owner_loop (T V S : Nat) (a : Option Addr) (l : List Ev) (cap : Nat) (w : World) (hl : l.length ≤ 2000) (hf : fineT T V S l = true) (hE : EvsAt w a l) (hK : KindsAt w) (hT : TabOk w) :
    Calls Tryd.prog 5 #[trA T V S a l.length cap] w fun e w' => e = .returned (.bool true) ∧ Below w.heap.size w w' := by
  obtain ⟨hz, hall⟩ := fineT_of hl hf
  obtain ⟨z1, z2, z3, z4, z5, z6⟩ := sizeOk_of hz
  have HW := hid (fun W (hW : Below w.heap.size w W) => works_any W (hK.below hW) (hT.below hW))
  have HC := hid (fun W (hW : Below w.heap.size w W) => fine_any T V S a l cap W (hE.below hW) (by omega) (hK.below hW) (hT.below hW))
  rw [hf] at HC
  have j : decide ((2000 : Int) < (l.length : Int)) = false := by rw [decide_eq_false_iff_not]; omega
  have HE := hid hE
  have HL := hid hl
  have HZ := hid hz
  have HALL := hid hall
  have HS1 := hid (show 1 ≤ S ∧ S ≤ 32 ∧ T ≤ 6 by omega)
  have hsz1 : (0 : Int) < (S : Int) := by omega
  have hsz2 : ((S : Int) == 0) = false := by simp; omega
  clear hl hK hT hE hf hz hall z1 z2 z3 z4 z5 z6
  dsimp only [trA] at HC ⊢
  have HB : Hid (Below w.heap.size w (w.alloc (.cells #[.int .i64 (T : Int), .int .i64 (V : Int), .int .i64 (S : Int), .slice a l.length cap] 24))) := hid (ext_alloc (ext_refl _) _)
  have d := Blk.new w #[.int .i64 (T : Int), .int .i64 (V : Int), .int .i64 (S : Int), .slice a l.length cap] 24
  go_enter Tryd.func5, Tryd.ntmps5
  go_wp2_with fail
  refine (HW.out _ HB.out).mono ?_
  rintro e' w1 ⟨rfl, hb1⟩
  have d0 := later hb1 (d.cell 0 rfl)
  have d1 := later hb1 (d.cell 1 rfl)
  have d2 := later hb1 (d.cell 2 rfl)
  have d3 := later hb1 (d.cell 3 rfl)
  have HB1 := hid (ext_trans HB.out hb1)
  clear hb1 d
  go_wp2_with fail
  refine (HC.out _ HB1.out).mono ?_
  rintro e' w2 ⟨rfl, hb2⟩
  have f2 := later hb2 d2
  have f3 := later hb2 d3
  have HB2 := hid (ext_trans HB1.out hb2)
  have HOB := hid (lt_of_cell f2)
  clear hb2 d0 d1 d2 d3
  go_wp2_with fail
  have g2 := cell_alloc (x := .cells #[.int .i64 0, .int .i64 0, .int .i64 0, .int .i64 0, .int .i64 0, .int .i64 0, .int .i64 0, .int .i64 0, .int .i64 0, .int .i64 0, .int .i64 0, .int .i64 0, .int .i64 0, .int .i64 0, .int .i64 0, .int .i64 0, .int .i64 0, .int .i64 0, .int .i64 0, .int .i64 0, .int .i64 0, .int .i64 0, .int .i64 0, .int .i64 0, .int .i64 0, .int .i64 0, .int .i64 0, .int .i64 0, .int .i64 0, .int .i64 0, .int .i64 0, .int .i64 0] 32) f2
  have g3 := cell_alloc (x := .cells #[.int .i64 0, .int .i64 0, .int .i64 0, .int .i64 0, .int .i64 0, .int .i64 0, .int .i64 0, .int .i64 0, .int .i64 0, .int .i64 0, .int .i64 0, .int .i64 0, .int .i64 0, .int .i64 0, .int .i64 0, .int .i64 0, .int .i64 0, .int .i64 0, .int .i64 0, .int .i64 0, .int .i64 0, .int .i64 0, .int .i64 0, .int .i64 0, .int .i64 0, .int .i64 0, .int .i64 0, .int .i64 0, .int .i64 0, .int .i64 0, .int .i64 0, .int .i64 0] 32) f3
  have HB3 : Hid (Below w.heap.size w (w2.alloc (.cells #[.int .i64 0, .int .i64 0, .int .i64 0, .int .i64 0, .int .i64 0, .int .i64 0, .int .i64 0, .int .i64 0, .int .i64 0, .int .i64 0, .int .i64 0, .int .i64 0, .int .i64 0, .int .i64 0, .int .i64 0, .int .i64 0, .int .i64 0, .int .i64 0, .int .i64 0, .int .i64 0, .int .i64 0, .int .i64 0, .int .i64 0, .int .i64 0, .int .i64 0, .int .i64 0, .int .i64 0, .int .i64 0, .int .i64 0, .int .i64 0, .int .i64 0, .int .i64 0] 32))) := hid (ext_alloc HB2.out _)
  have HO3 : Hid (Blk (w2.alloc (.cells #[.int .i64 0, .int .i64 0, .int .i64 0, .int .i64 0, .int .i64 0, .int .i64 0, .int .i64 0, .int .i64 0, .int .i64 0, .int .i64 0, .int .i64 0, .int .i64 0, .int .i64 0, .int .i64 0, .int .i64 0, .int .i64 0, .int .i64 0, .int .i64 0, .int .i64 0, .int .i64 0, .int .i64 0, .int .i64 0, .int .i64 0, .int .i64 0, .int .i64 0, .int .i64 0, .int .i64 0, .int .i64 0, .int .i64 0, .int .i64 0, .int .i64 0, .int .i64 0] 32)) w2.heap.size (ownC (newS T V S)) 32) := hid (by rw [ownC_new]; exact Blk.new _ _ _)
  clear f2 f3
  go_loopw [4] (fun i wr => ∃ (k : Nat) (s : Sh), k ≤ l.length ∧ i = .int .i64 (k : Int) ∧ Hid (Behind T V S l k s) ∧ Hid (Blk wr w2.heap.size (ownC s) 32) ∧ Hid (Below w.heap.size w wr) ∧ wr.cell? ⟨w.heap.size, 2, none⟩ = some (.int .i64 (S : Int)) ∧ wr.cell? ⟨w.heap.size, 3, none⟩ = some (.slice a l.length cap)) (fun i _ => l.length - (intOf i).toNat)
  case atStart => exact ⟨0, _, Nat.zero_le _, rfl, hid (Behind.zero HZ.out l), HO3, HB3, g2, g3⟩
  case round =>
    obtain ⟨k, s, hkl, rfl, HS, HO, HBR, d2, d3⟩ := hrel
    have HKL := hid hkl
    clear g2 g3
    by_cases hlt : k < l.length
    · have j1 : decide ((k : Int) < (l.length : Int)) = true := by rw [decide_eq_true_iff]; omega
      have j2 : (0 : Int) ≤ (k : Int) := by omega
      have j3 : IntKind.i64.wrap ((k : Int) + 1) = (k : Int) + 1 := IntWalk.i64_in _ (by have := HL.out; omega)
      have j4 : decide (k < l.length) = true := by rw [decide_eq_true_iff]; omega
      obtain ⟨b, o, rfl, hcell⟩ := HE.out.2 (by intro h; rw [h] at hlt; simp at hlt)
      obtain ⟨s', hs⟩ := HS.out.next hlt HALL.out
      have HS2 := hid (HS.out.step hlt hs)
      obtain ⟨th', hth1, -, hth2, -, hk13, hat1, hat2, -, -, -⟩ := stepS_inv HS.out.wf hs
      obtain ⟨o4, o9, o2, o3, o8, oo⟩ := owner_step HS.out.wf hs
      have hns : s.n = (S : Int) := by show (s.sts.length : Int) = _; rw [HS.out.ns]; simp
      have hnt := HS.out.nt
      rcases hek : l[k] with ⟨kind, thI, tx, atI, v, x, why⟩
      have e0 := later HBR.out (hcell k hlt 0 (.int .u8 kind) (by rw [hek]; rfl))
      have e1 := later HBR.out (hcell k hlt 1 (.int .i64 thI) (by rw [hek]; rfl))
      have e2 := later HBR.out (hcell k hlt 2 (.int .i64 tx) (by rw [hek]; rfl))
      have e3 := later HBR.out (hcell k hlt 3 (.int .i64 atI) (by rw [hek]; rfl))
      have e4 := later HBR.out (hcell k hlt 4 (.int .i64 v) (by rw [hek]; rfl))
      have e5 := later HBR.out (hcell k hlt 5 (.int .i64 x) (by rw [hek]; rfl))
      have e6 := later HBR.out (hcell k hlt 6 (.int .u8 why) (by rw [hek]; rfl))
      rw [Nat.add_zero] at e0
      rw [hek] at hth1 hk13 hat1 hat2 o4 o9 o2 o3 o8 oo
      dsimp only at hth1 hk13 hat1 hat2 o4 o9 o2 o3 o8 oo
      rw [hns] at o3 o8
      obtain ⟨th, rfl⟩ : ∃ th : Nat, thI = (th : Int) := ⟨th', hth1⟩
      obtain ⟨at_, rfl⟩ := Int.eq_ofNat_of_zero_le hat1.1
      have hat32 : at_ < 32 := by omega
      have jt : IntKind.i64.wrap ((th : Int) + 1) = (th : Int) + 1 := IntWalk.i64_in _ (by have := HS1.out; simp only [Int.toNat_natCast] at hnt; omega)
      have ja : (0 : Int) ≤ (at_ : Int) := by omega
      have jb : (at_ : Int) < 32 := by omega
      simp only [Int.toNat_natCast] at o4 o9 o2
      have HLT := hid hlt
      clear hcell hek hlt hkl hth1 hth2 hat1 hat2 hns hnt hs
      have HA : ∀ kd : Int, Hid (Below wr.heap.size wr (wr.alloc (.cells #[.int .u8 kd, .int .i64 (th : Int), .int .i64 tx, .int .i64 (at_ : Int), .int .i64 v, .int .i64 x, .int .u8 why] 34))) := fun kd => hid (ext_alloc (ext_refl _) _)
      have hkc : kind = 1 ∨ kind = 2 ∨ kind = 3 ∨ kind = 4 ∨ kind = 5 ∨ kind = 6 ∨ kind = 7 ∨ kind = 8 ∨ kind = 9 ∨ kind = 10 ∨ kind = 11 ∨ kind = 12 ∨ kind = 13 := by omega
      clear hk13
      rcases hkc with rfl | rfl | rfl | rfl | rfl | rfl | rfl | rfl | rfl | rfl | rfl | rfl | rfl
      · -- kind 1
        have dd2 := cell_alloc (x := .cells #[.int .u8 1, .int .i64 (th : Int), .int .i64 tx, .int .i64 (at_ : Int), .int .i64 v, .int .i64 x, .int .u8 why] 34) d2
        have dd3 := cell_alloc (x := .cells #[.int .u8 1, .int .i64 (th : Int), .int .i64 tx, .int .i64 (at_ : Int), .int .i64 v, .int .i64 x, .int .u8 why] 34) d3
        have HB4 : Hid (Below w.heap.size w (wr.alloc (.cells #[.int .u8 1, .int .i64 (th : Int), .int .i64 tx, .int .i64 (at_ : Int), .int .i64 v, .int .i64 x, .int .u8 why] 34))) := hid (ext_trans HBR.out (HA 1).out)
        have HO4 : Hid (Blk (wr.alloc (.cells #[.int .u8 1, .int .i64 (th : Int), .int .i64 tx, .int .i64 (at_ : Int), .int .i64 v, .int .i64 x, .int .u8 why] 34)) w2.heap.size (ownC s) 32) := hid (HO.out.below (HA 1).out)
        have HOS := hid (ownC_same (oo (by decide) (by decide) (by decide)))
        clear o4 o9 o2 o3 o8 oo
        go_wp2_with fail
        all_goals go_roundw
        case rel => exact ⟨k + 1, s', by have := HLT.out; omega, by simp, HS2, hid (by rw [HOS.out]; exact HO4.out), HB4, dd2, dd3⟩
        case measure => have := HLT.out; simp [intOf]; omega
      · -- kind 2
        have dd2 := cell_alloc (x := .cells #[.int .u8 2, .int .i64 (th : Int), .int .i64 tx, .int .i64 (at_ : Int), .int .i64 v, .int .i64 x, .int .u8 why] 34) d2
        have dd3 := cell_alloc (x := .cells #[.int .u8 2, .int .i64 (th : Int), .int .i64 tx, .int .i64 (at_ : Int), .int .i64 v, .int .i64 x, .int .u8 why] 34) d3
        have HB4 : Hid (Below w.heap.size w (wr.alloc (.cells #[.int .u8 2, .int .i64 (th : Int), .int .i64 tx, .int .i64 (at_ : Int), .int .i64 v, .int .i64 x, .int .u8 why] 34))) := hid (ext_trans HBR.out (HA 2).out)
        have HO4 : Hid (Blk (wr.alloc (.cells #[.int .u8 2, .int .i64 (th : Int), .int .i64 tx, .int .i64 (at_ : Int), .int .i64 v, .int .i64 x, .int .u8 why] 34)) w2.heap.size (ownC s) 32) := hid (HO.out.below (HA 2).out)
        obtain ⟨-, h1⟩ := o2 rfl
        have c := HO4.out.cell at_ (ownC_get s at_ hat32)
        rw [h1] at c
        have HOS := hid (ownC_same (oo (by decide) (by decide) (by decide)))
        clear o4 o9 o2 o3 o8 oo h1
        rw [show (-1 : Int) + 1 = 0 by decide] at c
        go_wp2_with fail
        all_goals go_roundw
        case rel => exact ⟨k + 1, s', by have := HLT.out; omega, by simp, HS2, hid (by rw [HOS.out]; exact HO4.out), HB4, dd2, dd3⟩
        case measure => have := HLT.out; simp [intOf]; omega
      · -- kind 3
        have dd2 := cell_alloc (x := .cells #[.int .u8 3, .int .i64 (th : Int), .int .i64 tx, .int .i64 (at_ : Int), .int .i64 v, .int .i64 x, .int .u8 why] 34) d2
        have dd3 := cell_alloc (x := .cells #[.int .u8 3, .int .i64 (th : Int), .int .i64 tx, .int .i64 (at_ : Int), .int .i64 v, .int .i64 x, .int .u8 why] 34) d3
        have HB4 : Hid (Below w.heap.size w (wr.alloc (.cells #[.int .u8 3, .int .i64 (th : Int), .int .i64 tx, .int .i64 (at_ : Int), .int .i64 v, .int .i64 x, .int .u8 why] 34))) := hid (ext_trans HBR.out (HA 3).out)
        have HO4 : Hid (Blk (wr.alloc (.cells #[.int .u8 3, .int .i64 (th : Int), .int .i64 tx, .int .i64 (at_ : Int), .int .i64 v, .int .i64 x, .int .u8 why] 34)) w2.heap.size (ownC s) 32) := hid (HO.out.below (HA 3).out)
        obtain ⟨q, hq⟩ := Int.eq_ofNat_of_zero_le (Int.emod_nonneg (at_ : Int) (show (S : Int) ≠ 0 by omega))
        have hmod : (at_ : Int).tmod (S : Int) = (q : Int) := by rw [Int.tmod_eq_emod_of_nonneg ja]; exact hq
        obtain ⟨hq32, h1⟩ := o3 rfl
        rw [hq] at hq32 h1
        simp only [Int.toNat_natCast] at hq32 h1
        have c := HO4.out.cell q (ownC_get s q hq32)
        rw [h1] at c
        have jq : (q : Int) < 32 := by omega
        have jq0 : (0 : Int) ≤ (q : Int) := by omega
        have HOS := hid (ownC_same (oo (by decide) (by decide) (by decide)))
        clear o4 o9 o2 o3 o8 oo h1 hq
        rw [show (-1 : Int) + 1 = 0 by decide] at c
        go_wp2_with fail
        all_goals go_roundw
        case rel => exact ⟨k + 1, s', by have := HLT.out; omega, by simp, HS2, hid (by rw [HOS.out]; exact HO4.out), HB4, dd2, dd3⟩
        case measure => have := HLT.out; simp [intOf]; omega
      · -- kind 4
        have dd2 := cell_alloc (x := .cells #[.int .u8 4, .int .i64 (th : Int), .int .i64 tx, .int .i64 (at_ : Int), .int .i64 v, .int .i64 x, .int .u8 why] 34) d2
        have dd3 := cell_alloc (x := .cells #[.int .u8 4, .int .i64 (th : Int), .int .i64 tx, .int .i64 (at_ : Int), .int .i64 v, .int .i64 x, .int .u8 why] 34) d3
        have HB4 : Hid (Below w.heap.size w (wr.alloc (.cells #[.int .u8 4, .int .i64 (th : Int), .int .i64 tx, .int .i64 (at_ : Int), .int .i64 v, .int .i64 x, .int .u8 why] 34))) := hid (ext_trans HBR.out (HA 4).out)
        have HO4 : Hid (Blk (wr.alloc (.cells #[.int .u8 4, .int .i64 (th : Int), .int .i64 tx, .int .i64 (at_ : Int), .int .i64 v, .int .i64 x, .int .u8 why] 34)) w2.heap.size (ownC s) 32) := hid (HO.out.below (HA 4).out)
        obtain ⟨-, h1, h2⟩ := o4 rfl
        have c := HO4.out.cell at_ (ownC_get s at_ hat32)
        rw [h1] at c
        have fz := HO4.out.free at_
        have HO5 := hid (HO4.out.set at_ (.int .i64 ((th : Int) + 1)))
        rw [ownC_set h2] at HO5
        have HB5 := hid (HB4.out.setCell (p := ⟨w2.heap.size, at_, none⟩) (Nat.le_of_lt HOB.out) (.int .i64 ((th : Int) + 1)))
        have dd2' := cell_set dd2 ⟨w2.heap.size, at_, none⟩ (.int .i64 ((th : Int) + 1)) (Nat.ne_of_lt HOB.out)
        have dd3' := cell_set dd3 ⟨w2.heap.size, at_, none⟩ (.int .i64 ((th : Int) + 1)) (Nat.ne_of_lt HOB.out)
        clear o4 o9 o2 o3 o8 oo h1 h2
        rw [show (-1 : Int) + 1 = 0 by decide] at c
        go_wp2_with fail
        all_goals go_roundw
        case rel => exact ⟨k + 1, s', by have := HLT.out; omega, by simp, HS2, HO5, HB5, dd2', dd3'⟩
        case measure => have := HLT.out; simp [intOf]; omega
      · -- kind 5
        have dd2 := cell_alloc (x := .cells #[.int .u8 5, .int .i64 (th : Int), .int .i64 tx, .int .i64 (at_ : Int), .int .i64 v, .int .i64 x, .int .u8 why] 34) d2
        have dd3 := cell_alloc (x := .cells #[.int .u8 5, .int .i64 (th : Int), .int .i64 tx, .int .i64 (at_ : Int), .int .i64 v, .int .i64 x, .int .u8 why] 34) d3
        have HB4 : Hid (Below w.heap.size w (wr.alloc (.cells #[.int .u8 5, .int .i64 (th : Int), .int .i64 tx, .int .i64 (at_ : Int), .int .i64 v, .int .i64 x, .int .u8 why] 34))) := hid (ext_trans HBR.out (HA 5).out)
        have HO4 : Hid (Blk (wr.alloc (.cells #[.int .u8 5, .int .i64 (th : Int), .int .i64 tx, .int .i64 (at_ : Int), .int .i64 v, .int .i64 x, .int .u8 why] 34)) w2.heap.size (ownC s) 32) := hid (HO.out.below (HA 5).out)
        have HOS := hid (ownC_same (oo (by decide) (by decide) (by decide)))
        clear o4 o9 o2 o3 o8 oo
        go_wp2_with fail
        all_goals go_roundw
        case rel => exact ⟨k + 1, s', by have := HLT.out; omega, by simp, HS2, hid (by rw [HOS.out]; exact HO4.out), HB4, dd2, dd3⟩
        case measure => have := HLT.out; simp [intOf]; omega
      · -- kind 6
        have dd2 := cell_alloc (x := .cells #[.int .u8 6, .int .i64 (th : Int), .int .i64 tx, .int .i64 (at_ : Int), .int .i64 v, .int .i64 x, .int .u8 why] 34) d2
        have dd3 := cell_alloc (x := .cells #[.int .u8 6, .int .i64 (th : Int), .int .i64 tx, .int .i64 (at_ : Int), .int .i64 v, .int .i64 x, .int .u8 why] 34) d3
        have HB4 : Hid (Below w.heap.size w (wr.alloc (.cells #[.int .u8 6, .int .i64 (th : Int), .int .i64 tx, .int .i64 (at_ : Int), .int .i64 v, .int .i64 x, .int .u8 why] 34))) := hid (ext_trans HBR.out (HA 6).out)
        have HO4 : Hid (Blk (wr.alloc (.cells #[.int .u8 6, .int .i64 (th : Int), .int .i64 tx, .int .i64 (at_ : Int), .int .i64 v, .int .i64 x, .int .u8 why] 34)) w2.heap.size (ownC s) 32) := hid (HO.out.below (HA 6).out)
        have HOS := hid (ownC_same (oo (by decide) (by decide) (by decide)))
        clear o4 o9 o2 o3 o8 oo
        go_wp2_with fail
        all_goals go_roundw
        case rel => exact ⟨k + 1, s', by have := HLT.out; omega, by simp, HS2, hid (by rw [HOS.out]; exact HO4.out), HB4, dd2, dd3⟩
        case measure => have := HLT.out; simp [intOf]; omega
      · -- kind 7
        have dd2 := cell_alloc (x := .cells #[.int .u8 7, .int .i64 (th : Int), .int .i64 tx, .int .i64 (at_ : Int), .int .i64 v, .int .i64 x, .int .u8 why] 34) d2
        have dd3 := cell_alloc (x := .cells #[.int .u8 7, .int .i64 (th : Int), .int .i64 tx, .int .i64 (at_ : Int), .int .i64 v, .int .i64 x, .int .u8 why] 34) d3
        have HB4 : Hid (Below w.heap.size w (wr.alloc (.cells #[.int .u8 7, .int .i64 (th : Int), .int .i64 tx, .int .i64 (at_ : Int), .int .i64 v, .int .i64 x, .int .u8 why] 34))) := hid (ext_trans HBR.out (HA 7).out)
        have HO4 : Hid (Blk (wr.alloc (.cells #[.int .u8 7, .int .i64 (th : Int), .int .i64 tx, .int .i64 (at_ : Int), .int .i64 v, .int .i64 x, .int .u8 why] 34)) w2.heap.size (ownC s) 32) := hid (HO.out.below (HA 7).out)
        have HOS := hid (ownC_same (oo (by decide) (by decide) (by decide)))
        clear o4 o9 o2 o3 o8 oo
        go_wp2_with fail
        all_goals go_roundw
        case rel => exact ⟨k + 1, s', by have := HLT.out; omega, by simp, HS2, hid (by rw [HOS.out]; exact HO4.out), HB4, dd2, dd3⟩
        case measure => have := HLT.out; simp [intOf]; omega
      · -- kind 8
        have dd2 := cell_alloc (x := .cells #[.int .u8 8, .int .i64 (th : Int), .int .i64 tx, .int .i64 (at_ : Int), .int .i64 v, .int .i64 x, .int .u8 why] 34) d2
        have dd3 := cell_alloc (x := .cells #[.int .u8 8, .int .i64 (th : Int), .int .i64 tx, .int .i64 (at_ : Int), .int .i64 v, .int .i64 x, .int .u8 why] 34) d3
        have HB4 : Hid (Below w.heap.size w (wr.alloc (.cells #[.int .u8 8, .int .i64 (th : Int), .int .i64 tx, .int .i64 (at_ : Int), .int .i64 v, .int .i64 x, .int .u8 why] 34))) := hid (ext_trans HBR.out (HA 8).out)
        have HO4 : Hid (Blk (wr.alloc (.cells #[.int .u8 8, .int .i64 (th : Int), .int .i64 tx, .int .i64 (at_ : Int), .int .i64 v, .int .i64 x, .int .u8 why] 34)) w2.heap.size (ownC s) 32) := hid (HO.out.below (HA 8).out)
        obtain ⟨q, hq⟩ := Int.eq_ofNat_of_zero_le (Int.emod_nonneg (at_ : Int) (show (S : Int) ≠ 0 by omega))
        have hmod : (at_ : Int).tmod (S : Int) = (q : Int) := by rw [Int.tmod_eq_emod_of_nonneg ja]; exact hq
        obtain ⟨hq32, h1⟩ := o8 rfl
        rw [hq] at hq32 h1
        simp only [Int.toNat_natCast] at hq32 h1
        have c := HO4.out.cell q (ownC_get s q hq32)
        rw [h1] at c
        have jq : (q : Int) < 32 := by omega
        have jq0 : (0 : Int) ≤ (q : Int) := by omega
        have HOS := hid (ownC_same (oo (by decide) (by decide) (by decide)))
        clear o4 o9 o2 o3 o8 oo h1 hq
        go_wp2_with fail
        go_quiet (fail)
        go_wp2_with fail
        all_goals go_roundw
        case rel => exact ⟨k + 1, s', by have := HLT.out; omega, by simp, HS2, hid ((by rw [HOS.out]; exact HO4.out.below (ext_drewN (ext_refl _) _))), hid (ext_trans HB4.out (ext_drewN (ext_refl _) _)), later (ext_drewN (ext_refl _) _) dd2, later (ext_drewN (ext_refl _) _) dd3⟩
        case measure => have := HLT.out; simp [intOf]; omega
      · -- kind 9
        have dd2 := cell_alloc (x := .cells #[.int .u8 9, .int .i64 (th : Int), .int .i64 tx, .int .i64 (at_ : Int), .int .i64 v, .int .i64 x, .int .u8 why] 34) d2
        have dd3 := cell_alloc (x := .cells #[.int .u8 9, .int .i64 (th : Int), .int .i64 tx, .int .i64 (at_ : Int), .int .i64 v, .int .i64 x, .int .u8 why] 34) d3
        have HB4 : Hid (Below w.heap.size w (wr.alloc (.cells #[.int .u8 9, .int .i64 (th : Int), .int .i64 tx, .int .i64 (at_ : Int), .int .i64 v, .int .i64 x, .int .u8 why] 34))) := hid (ext_trans HBR.out (HA 9).out)
        have HO4 : Hid (Blk (wr.alloc (.cells #[.int .u8 9, .int .i64 (th : Int), .int .i64 tx, .int .i64 (at_ : Int), .int .i64 v, .int .i64 x, .int .u8 why] 34)) w2.heap.size (ownC s) 32) := hid (HO.out.below (HA 9).out)
        obtain ⟨-, h1, h2⟩ := o9 (by decide)
        have c := HO4.out.cell at_ (ownC_get s at_ hat32)
        rw [h1] at c
        have fz := HO4.out.free at_
        have H2 := hid h2
        clear o4 o9 o2 o3 o8 oo h1 h2
        go_wp2_with fail
        go_quiet (fail)
        go_wp2_with fail
        all_goals go_roundw
        case rel => exact ⟨k + 1, s', by have := HLT.out; omega, by simp, HS2, hid (ownB (HO4.out.below (ext_drewN (ext_refl _) _)) H2.out), hid ((ext_trans HB4.out (ext_drewN (ext_refl _) _)).setCell (Nat.le_of_lt HOB.out) _), cell_set (later (ext_drewN (ext_refl _) _) dd2) _ _ (Nat.ne_of_lt HOB.out), cell_set (later (ext_drewN (ext_refl _) _) dd3) _ _ (Nat.ne_of_lt HOB.out)⟩
        case measure => have := HLT.out; simp [intOf]; omega
      · -- kind 10
        have dd2 := cell_alloc (x := .cells #[.int .u8 10, .int .i64 (th : Int), .int .i64 tx, .int .i64 (at_ : Int), .int .i64 v, .int .i64 x, .int .u8 why] 34) d2
        have dd3 := cell_alloc (x := .cells #[.int .u8 10, .int .i64 (th : Int), .int .i64 tx, .int .i64 (at_ : Int), .int .i64 v, .int .i64 x, .int .u8 why] 34) d3
        have HB4 : Hid (Below w.heap.size w (wr.alloc (.cells #[.int .u8 10, .int .i64 (th : Int), .int .i64 tx, .int .i64 (at_ : Int), .int .i64 v, .int .i64 x, .int .u8 why] 34))) := hid (ext_trans HBR.out (HA 10).out)
        have HO4 : Hid (Blk (wr.alloc (.cells #[.int .u8 10, .int .i64 (th : Int), .int .i64 tx, .int .i64 (at_ : Int), .int .i64 v, .int .i64 x, .int .u8 why] 34)) w2.heap.size (ownC s) 32) := hid (HO.out.below (HA 10).out)
        have HOS := hid (ownC_same (oo (by decide) (by decide) (by decide)))
        clear o4 o9 o2 o3 o8 oo
        go_wp2_with fail
        all_goals go_roundw
        case rel => exact ⟨k + 1, s', by have := HLT.out; omega, by simp, HS2, hid (by rw [HOS.out]; exact HO4.out), HB4, dd2, dd3⟩
        case measure => have := HLT.out; simp [intOf]; omega
      · -- kind 11
        have dd2 := cell_alloc (x := .cells #[.int .u8 11, .int .i64 (th : Int), .int .i64 tx, .int .i64 (at_ : Int), .int .i64 v, .int .i64 x, .int .u8 why] 34) d2
        have dd3 := cell_alloc (x := .cells #[.int .u8 11, .int .i64 (th : Int), .int .i64 tx, .int .i64 (at_ : Int), .int .i64 v, .int .i64 x, .int .u8 why] 34) d3
        have HB4 : Hid (Below w.heap.size w (wr.alloc (.cells #[.int .u8 11, .int .i64 (th : Int), .int .i64 tx, .int .i64 (at_ : Int), .int .i64 v, .int .i64 x, .int .u8 why] 34))) := hid (ext_trans HBR.out (HA 11).out)
        have HO4 : Hid (Blk (wr.alloc (.cells #[.int .u8 11, .int .i64 (th : Int), .int .i64 tx, .int .i64 (at_ : Int), .int .i64 v, .int .i64 x, .int .u8 why] 34)) w2.heap.size (ownC s) 32) := hid (HO.out.below (HA 11).out)
        obtain ⟨-, h1, h2⟩ := o9 (by decide)
        have c := HO4.out.cell at_ (ownC_get s at_ hat32)
        rw [h1] at c
        have fz := HO4.out.free at_
        have H2 := hid h2
        clear o4 o9 o2 o3 o8 oo h1 h2
        go_wp2_with fail
        go_quiet (fail)
        go_wp2_with fail
        all_goals go_roundw
        case rel => exact ⟨k + 1, s', by have := HLT.out; omega, by simp, HS2, hid (ownB (HO4.out.below (ext_drewN (ext_refl _) _)) H2.out), hid ((ext_trans HB4.out (ext_drewN (ext_refl _) _)).setCell (Nat.le_of_lt HOB.out) _), cell_set (later (ext_drewN (ext_refl _) _) dd2) _ _ (Nat.ne_of_lt HOB.out), cell_set (later (ext_drewN (ext_refl _) _) dd3) _ _ (Nat.ne_of_lt HOB.out)⟩
        case measure => have := HLT.out; simp [intOf]; omega
      · -- kind 12
        have dd2 := cell_alloc (x := .cells #[.int .u8 12, .int .i64 (th : Int), .int .i64 tx, .int .i64 (at_ : Int), .int .i64 v, .int .i64 x, .int .u8 why] 34) d2
        have dd3 := cell_alloc (x := .cells #[.int .u8 12, .int .i64 (th : Int), .int .i64 tx, .int .i64 (at_ : Int), .int .i64 v, .int .i64 x, .int .u8 why] 34) d3
        have HB4 : Hid (Below w.heap.size w (wr.alloc (.cells #[.int .u8 12, .int .i64 (th : Int), .int .i64 tx, .int .i64 (at_ : Int), .int .i64 v, .int .i64 x, .int .u8 why] 34))) := hid (ext_trans HBR.out (HA 12).out)
        have HO4 : Hid (Blk (wr.alloc (.cells #[.int .u8 12, .int .i64 (th : Int), .int .i64 tx, .int .i64 (at_ : Int), .int .i64 v, .int .i64 x, .int .u8 why] 34)) w2.heap.size (ownC s) 32) := hid (HO.out.below (HA 12).out)
        have HOS := hid (ownC_same (oo (by decide) (by decide) (by decide)))
        clear o4 o9 o2 o3 o8 oo
        go_wp2_with fail
        all_goals go_roundw
        case rel => exact ⟨k + 1, s', by have := HLT.out; omega, by simp, HS2, hid (by rw [HOS.out]; exact HO4.out), HB4, dd2, dd3⟩
        case measure => have := HLT.out; simp [intOf]; omega
      · -- kind 13
        have dd2 := cell_alloc (x := .cells #[.int .u8 13, .int .i64 (th : Int), .int .i64 tx, .int .i64 (at_ : Int), .int .i64 v, .int .i64 x, .int .u8 why] 34) d2
        have dd3 := cell_alloc (x := .cells #[.int .u8 13, .int .i64 (th : Int), .int .i64 tx, .int .i64 (at_ : Int), .int .i64 v, .int .i64 x, .int .u8 why] 34) d3
        have HB4 : Hid (Below w.heap.size w (wr.alloc (.cells #[.int .u8 13, .int .i64 (th : Int), .int .i64 tx, .int .i64 (at_ : Int), .int .i64 v, .int .i64 x, .int .u8 why] 34))) := hid (ext_trans HBR.out (HA 13).out)
        have HO4 : Hid (Blk (wr.alloc (.cells #[.int .u8 13, .int .i64 (th : Int), .int .i64 tx, .int .i64 (at_ : Int), .int .i64 v, .int .i64 x, .int .u8 why] 34)) w2.heap.size (ownC s) 32) := hid (HO.out.below (HA 13).out)
        have HOS := hid (ownC_same (oo (by decide) (by decide) (by decide)))
        clear o4 o9 o2 o3 o8 oo
        go_wp2_with fail
        all_goals go_roundw
        case rel => exact ⟨k + 1, s', by have := HLT.out; omega, by simp, HS2, hid (by rw [HOS.out]; exact HO4.out), HB4, dd2, dd3⟩
        case measure => have := HLT.out; simp [intOf]; omega
    · obtain rfl : k = l.length := by omega
      have j1 : decide ((l.length : Int) < (l.length : Int)) = false := by rw [decide_eq_false_iff_not]; omega
      have j4 : decide (l.length < l.length) = false := by rw [decide_eq_false_iff_not]; omega
      go_wp2_with fail
      go_ret
      exact ⟨rfl, HBR.out⟩
theorem shapeOwner_any (T V S : Int) (a : Option Addr) (l : List Ev) (cap : Nat) (w : World) (hE : EvsAt w a l) (hK : KindsAt w) (hT : TabOk w) :
    Calls Tryd.prog 5 #[trA T V S a l.length cap] w fun e w' => e = .returned (.bool true) ∧ Below w.heap.size w w' := by
  by_cases hl : 2000 < l.length
  · exact owner_great T V S a _ cap w hl hK hT
  have hl' : l.length ≤ 2000 := by omega
  cases hf : fineT T V S l with
  | false => exact owner_no T V S a l cap w hl' hf hE hK hT
  | true =>
    obtain ⟨h1, h2, h3, h4, h5, h6⟩ := sizeOk_of (fineT_of hl' hf).1
    obtain ⟨T, rfl⟩ := Int.eq_ofNat_of_zero_le h1
    obtain ⟨V, rfl⟩ := Int.eq_ofNat_of_zero_le (show 0 ≤ V by omega)
    obtain ⟨S, rfl⟩ := Int.eq_ofNat_of_zero_le (show 0 ≤ S by omega)
    exact owner_loop T V S a l cap w hl' hf hE hK hT
end Go.Proofs.YtmgchpijkdammaaDoor
