/-
  The law ShapeRow: its walk.
-/
import Derived.Test.YtmgchpijkdammaaDoorShRx
namespace Go.Proofs.YtmgchpijkdammaaDoor
set_option linter.unusedVariables false
set_option linter.unusedSimpArgs false
open Go Go.RowKit
theorem infoI64 : (Tryd.prog.info? 3).map (fun i => (i.zero, i.size, i.bytes)) = some (some (.int .i64 0), 1, 8) := by kernel_rfl
theorem all11 {l : Nat → Bool} (h0 : l 0 = true) (h1 : l 1 = true) (h2 : l 2 = true) (h3 : l 3 = true) (h4 : l 4 = true) (h5 : l 5 = true) (h6 : l 6 = true) (h7 : l 7 = true) (h8 : l 8 = true) (h9 : l 9 = true) (h10 : l 10 = true) : ∀ i, i < 11 → l i = true := by
  intro i hi
  have : i = 0 ∨ i = 1 ∨ i = 2 ∨ i = 3 ∨ i = 4 ∨ i = 5 ∨ i = 6 ∨ i = 7 ∨ i = 8 ∨ i = 9 ∨ i = 10 := by omega
  rcases this with rfl | rfl | rfl | rfl | rfl | rfl | rfl | rfl | rfl | rfl | rfl <;> assumption
theorem wp_opaque {P : Program} {C : Code} {Q : Exit → Act → World → Prop} {A : Act} {w : World} (F : World → Prop) (h : F w) (k : ∀ W, F W → C.wp P Q A W) : C.wp P Q A w := k w h
theorem ints_one (l : List Int) : ∀ u ∈ ints l, u.oneCell' = true := by
  intro u hu
  unfold ints at hu
  obtain ⟨x, -, rfl⟩ := List.mem_map.1 hu
  rfl
/-- A list's numbers, looked through: is one of the first j such? -/
def anyTo (p : Int → Bool) (l : List Int) (j : Nat) : Bool := (l.take j).any p
theorem anyTo_step (p : Int → Bool) (l : List Int) (j : Nat) (h : j < l.length) : anyTo p l (j + 1) = (anyTo p l j || p l[j]) := by
  unfold anyTo; rw [List.take_succ_eq_append_getElem h, List.any_append]; simp
theorem anyTo_all {p : Int → Bool} {l : List Int} (h : ∃ x ∈ l, p x = true) : anyTo p l l.length = true := by
  unfold anyTo; rw [List.take_length]; exact List.any_eq_true.2 h
set_option maxRecDepth 100000 in
set_option maxHeartbeats 4000000 in
theorem row_great (T V S : Int) (a : Option Addr) (len cap : Nat) (w : World) (hl : 2000 < len) (hK : KindsAt w) (hT : TabOk w) :
    Calls Tryd.prog 8 #[trA T V S a len cap] w fun e w' => e = .returned (.bool true) ∧ Below w.heap.size w w' := by
  have HW := hid (fun W (hW : Below w.heap.size w W) => works_any W (hK.below hW) (hT.below hW))
  have j : decide ((2000 : Int) < (len : Int)) = true := by rw [decide_eq_true_iff]; omega
  clear hl hK hT
  dsimp only [trA]
  have HB : Hid (Below w.heap.size w (w.alloc (.cells #[.int .i64 T, .int .i64 V, .int .i64 S, .slice a len cap] 24))) := hid (ext_alloc (ext_refl _) _)
  have d := (Blk.new w #[.int .i64 T, .int .i64 V, .int .i64 S, .slice a len cap] 24).cell 3 rfl
  go_enter Tryd.func8, Tryd.ntmps8
  go_wp2_with fail
  refine (HW.out _ HB.out).mono ?_
  rintro e' w1 ⟨rfl, hb1⟩
  have d3 := later hb1 d
  have HB1 := hid (ext_trans HB.out hb1)
  clear hb1 d
  go_wp2_with fail
  refine (HW.out _ HB1.out).mono ?_
  rintro e' w2 ⟨rfl, hb2⟩
  have HB2 := hid (ext_trans HB1.out hb2)
  clear hb2
  go_wp2_with fail
  go_ret
  exact ⟨rfl, HB2.out⟩
set_option maxRecDepth 100000 in
set_option maxHeartbeats 4000000 in
theorem row_no (T V S : Int) (a : Option Addr) (l : List Ev) (cap : Nat) (w : World) (hl : l.length ≤ 2000) (hf : fineT T V S l = false) (hE : EvsAt w a l) (hK : KindsAt w) (hT : TabOk w) :
    Calls Tryd.prog 8 #[trA T V S a l.length cap] w fun e w' => e = .returned (.bool true) ∧ Below w.heap.size w w' := by
  have HW := hid (fun W (hW : Below w.heap.size w W) => works_any W (hK.below hW) (hT.below hW))
  have HC := hid (fun W (hW : Below w.heap.size w W) => fine_any T V S a l cap W (hE.below hW) (by omega) (hK.below hW) (hT.below hW))
  rw [hf] at HC
  have j : decide ((2000 : Int) < (l.length : Int)) = false := by rw [decide_eq_false_iff_not]; omega
  clear hl hK hT hE hf
  dsimp only [trA] at HC ⊢
  have HB : Hid (Below w.heap.size w (w.alloc (.cells #[.int .i64 T, .int .i64 V, .int .i64 S, .slice a l.length cap] 24))) := hid (ext_alloc (ext_refl _) _)
  have d := Blk.new w #[.int .i64 T, .int .i64 V, .int .i64 S, .slice a l.length cap] 24
  go_enter Tryd.func8, Tryd.ntmps8
  go_wp2_with fail
  refine (HW.out _ HB.out).mono ?_
  rintro e' w1 ⟨rfl, hb1⟩
  have d0 := later hb1 (d.cell 0 rfl)
  have d1 := later hb1 (d.cell 1 rfl)
  have d2 := later hb1 (d.cell 2 rfl)
  have d3 := later hb1 (d.cell 3 rfl)
  have HB1 := hid (ext_trans HB.out hb1)
  clear hb1 d
  go_wp2_with fail
  refine (HC.out _ HB1.out).mono ?_
  rintro e' w2 ⟨rfl, hb2⟩
  have HB2 := hid (ext_trans HB1.out hb2)
  clear hb2
  go_wp2_with fail
  go_ret
  exact ⟨rfl, HB2.out⟩
set_option maxRecDepth 100000 in
set_option maxHeartbeats 40000000 in
theorem row_loop (T V S : Nat) (a : Option Addr) (l : List Ev) (cap : Nat) (w : World) (hl : l.length ≤ 2000) (hf : fineT T V S l = true) (hE : EvsAt w a l) (hK : KindsAt w) (hT : TabOk w) :
    Calls Tryd.prog 8 #[trA T V S a l.length cap] w fun e w' => e = .returned (.bool true) ∧ Below w.heap.size w w' := by
  obtain ⟨hz, hall⟩ := fineT_ok hl hf
  obtain ⟨z1, z2, z3, z4, z5, z6⟩ := sizeOk_of hz
  obtain ⟨i0, hi0, hz0, hz1, hz2⟩ := info_parts infoI64
  have HW := hid (fun W (hW : Below w.heap.size w W) => works_any W (hK.below hW) (hT.below hW))
  have HC := hid (fun W (hW : Below w.heap.size w W) => fine_any T V S a l cap W (hE.below hW) (by omega) (hK.below hW) (hT.below hW))
  rw [hf] at HC
  have j : decide ((2000 : Int) < (l.length : Int)) = false := by rw [decide_eq_false_iff_not]; omega
  have HE := hid hE
  have HL := hid hl
  have HZ := hid hz
  have HALL := hid hall
  have HS1 := hid (show 1 ≤ S ∧ S ≤ 32 ∧ T ≤ 6 by omega)
  have hsz1 : (0 : Int) < (S : Int) := by omega
  have hsz2 : ((S : Int) == 0) = false := by simp; omega
  clear hl hK hT hE hf hz hall z1 z2 z3 z4 z5 z6
  dsimp only [trA] at HC ⊢
  have HB : Hid (Below w.heap.size w (w.alloc (.cells #[.int .i64 (T : Int), .int .i64 (V : Int), .int .i64 (S : Int), .slice a l.length cap] 24))) := hid (ext_alloc (ext_refl _) _)
  have d := Blk.new w #[.int .i64 (T : Int), .int .i64 (V : Int), .int .i64 (S : Int), .slice a l.length cap] 24
  go_enter Tryd.func8, Tryd.ntmps8
  go_wp2_with fail
  refine (HW.out _ HB.out).mono ?_
  rintro e' w1 ⟨rfl, hb1⟩
  have d0 := later hb1 (d.cell 0 rfl)
  have d1 := later hb1 (d.cell 1 rfl)
  have d2 := later hb1 (d.cell 2 rfl)
  have d3 := later hb1 (d.cell 3 rfl)
  have HB1 := hid (ext_trans HB.out hb1)
  clear hb1 d
  go_wp2_with fail
  refine (HC.out _ HB1.out).mono ?_
  rintro e' w2 ⟨rfl, hb2⟩
  have f2 := later hb2 d2
  have f3 := later hb2 d3
  have HB2 := hid (ext_trans HB1.out hb2)
  have HOB := hid (lt_of_cell f2)
  clear hb2 d0 d1 d2 d3
  go_wp2_with fail
  have HR0 : Hid (RW w (((w2.alloc (.cells #[.int .i64 0, .int .i64 0, .int .i64 0, .int .i64 0, .int .i64 0, .int .i64 0] 35)).alloc (.cells #[.slice none 0 0, .slice none 0 0, .slice none 0 0, .slice none 0 0, .slice none 0 0, .slice none 0 0] 39)).alloc (.cells #[.slice none 0 0, .slice none 0 0, .slice none 0 0, .slice none 0 0, .slice none 0 0, .slice none 0 0] 39)) w2.heap.size (S : Int) a l.length cap (fun _ => 0) (fun _ => []) (fun _ => []) (fun _ => .slice none 0 0) (fun _ => .slice none 0 0)) := by
    refine ⟨ext_alloc (ext_alloc (ext_alloc HB2.out _) _) _, HOB.out, ((Blk.new _ _ _).alloc _).alloc _, (Blk.new' _ _ _ (by simp)).alloc _, Blk.new' _ _ _ (by simp), fun i hi => RowV.nil _ _ _, fun i hi => RowV.nil _ _ _, later (ext_alloc (ext_alloc (ext_alloc (ext_refl _) _) _) _) f2, later (ext_alloc (ext_alloc (ext_alloc (ext_refl _) _) _) _) f3⟩
  clear f2 f3
  go_loopw [6] (fun i wr => ∃ (k : Nat) (s : Sh) (cm : Nat → Int) (lk st : Nat → List Int) (lv sv : Nat → Value), k ≤ l.length ∧ i = .int .i64 (k : Int) ∧ Hid (Behind T V S l k s) ∧ Hid (RowL s cm lk st) ∧ Hid (∀ i, (lk i).length ≤ k ∧ (st i).length ≤ k) ∧ Hid (RW w wr w2.heap.size (S : Int) a l.length cap cm lk st lv sv)) (fun i _ => l.length - (intOf i).toNat)
  case atStart => exact ⟨0, _, _, _, _, _, _, Nat.zero_le _, rfl, hid (Behind.zero HZ.out l), hid (RowL.new T V S _ _), hid (fun _ => ⟨Nat.le_refl _, Nat.le_refl _⟩), HR0⟩
  case round =>
    obtain ⟨k, s, cm, lk, st, lv, sv, hkl, rfl, HS, HJ, HN, HR⟩ := hrel
    have HKL := hid hkl
    have d2 := HR.out.d2
    have d3 := HR.out.d3
    clear HR0
    by_cases hlt : k < l.length
    · have j1 : decide ((k : Int) < (l.length : Int)) = true := by rw [decide_eq_true_iff]; omega
      have j2 : (0 : Int) ≤ (k : Int) := by omega
      have j3 : IntKind.i64.wrap ((k : Int) + 1) = (k : Int) + 1 := IntWalk.i64_in _ (by have := HL.out; omega)
      have j4 : decide (k < l.length) = true := by rw [decide_eq_true_iff]; omega
      obtain ⟨b, o, rfl, hcell⟩ := HE.out.2 (by intro h; rw [h] at hlt; simp at hlt)
      obtain ⟨s', hs⟩ := HS.out.goes hlt HALL.out
      have HS2 := hid (HS.out.step hlt hs)
      obtain ⟨th', hth1, -, hth2, -, hk13, -, -, -, -, -⟩ := stepS_inv HS.out.wf hs
      obtain ⟨hth6, hth0, r1, r4, r8, r7, r9, ro⟩ := row_step HS.out.wf HJ.out hs
      have hns : s.n = (S : Int) := by show (s.sts.length : Int) = _; rw [HS.out.ns]; simp
      have hcm := (HJ.out th' hth2).1
      have hcb := HS.out.cm th' hth2
      have hc0 := (HS.out.wf.th th' hth2).com
      rcases hek : l[k] with ⟨kind, thI, tx, at_, v, x, why⟩
      have e0 := later HR.out.low (hcell k hlt 0 (.int .u8 kind) (by rw [hek]; rfl))
      have e1 := later HR.out.low (hcell k hlt 1 (.int .i64 thI) (by rw [hek]; rfl))
      have e2 := later HR.out.low (hcell k hlt 2 (.int .i64 tx) (by rw [hek]; rfl))
      have e3 := later HR.out.low (hcell k hlt 3 (.int .i64 at_) (by rw [hek]; rfl))
      have e4 := later HR.out.low (hcell k hlt 4 (.int .i64 v) (by rw [hek]; rfl))
      have e5 := later HR.out.low (hcell k hlt 5 (.int .i64 x) (by rw [hek]; rfl))
      have e6 := later HR.out.low (hcell k hlt 6 (.int .u8 why) (by rw [hek]; rfl))
      rw [Nat.add_zero] at e0
      rw [hek] at hth1 hk13 hth6 hth0 r1 r4 r8 r7 r9 ro
      dsimp only at hth1 hk13 hth6 hth0 r1 r4 r8 r7 r9 ro
      rw [hns] at r8 r9
      obtain ⟨th, rfl⟩ : ∃ th : Nat, thI = (th : Int) := Int.eq_ofNat_of_zero_le hth0.1
      obtain rfl : th' = th := by omega
      simp only [Int.toNat_natCast] at hth6 r1 r4 r8 r7 r9 ro
      have jt0 : (0 : Int) ≤ (th' : Int) := by omega
      have jt6 : (th' : Int) < 6 := by omega
      have jc : IntKind.i64.wrap (cm th' + 1) = cm th' + 1 := IntWalk.i64_in _ (by have := HL.out; omega)
      have HLT := hid hlt
      have HL6 := hid hth6
      clear hcell hek hlt hkl hth1 hth2 hns hs hcm hcb hc0 hth0
      have HA : ∀ kd : Int, Hid (Below wr.heap.size wr (wr.alloc (.cells #[.int .u8 kd, .int .i64 (th' : Int), .int .i64 tx, .int .i64 at_, .int .i64 v, .int .i64 x, .int .u8 why] 34))) := fun kd => hid (ext_alloc (ext_refl _) _)
      have hkc : kind = 1 ∨ kind = 2 ∨ kind = 3 ∨ kind = 4 ∨ kind = 5 ∨ kind = 6 ∨ kind = 7 ∨ kind = 8 ∨ kind = 9 ∨ kind = 10 ∨ kind = 11 ∨ kind = 12 ∨ kind = 13 := by omega
      clear hk13
      rcases hkc with rfl | rfl | rfl | rfl | rfl | rfl | rfl | rfl | rfl | rfl | rfl | rfl | rfl
      · as_aux_lemma =>
        -- kind 1
        have HR4 := hid (HR.out.below (HA 1).out)
        have dd2 := HR4.out.d2
        have dd3 := HR4.out.d3
        obtain ⟨htx, hj⟩ := r1 rfl
        have HJ2 := hid hj
        subst htx
        have c1 := HR4.out.c.cell th' (A6_get _ hth6)
        have c2 := HR4.out.k.cell th' (A6_get _ hth6)
        have c3 := HR4.out.s.cell th' (A6_get _ hth6)
        have z2 := HR4.out.k.free th'
        have z3 := HR4.out.s.free th'
        clear r1 r4 r8 r7 r9 ro hj
        go_wp2_with fail
        go_quiet (fail)
        go_wp2_with fail
        all_goals go_roundw
        case rel => exact ⟨k + 1, s', cm, _, _, _, _, by have := HLT.out; omega, by simp, HS2, HJ2, hid (fun i => ⟨by have := (HN.out i).1; unfold updL; split <;> simp <;> omega, by have := (HN.out i).2; unfold updL; split <;> simp <;> omega⟩), hid ((HR4.out.below (ext_drewN (ext_refl _) _)).begin HL6.out)⟩
        case measure => have := HLT.out; simp [intOf]; omega
      · as_aux_lemma =>
        -- kind 2
        have HR4 := hid (HR.out.below (HA 2).out)
        have dd2 := HR4.out.d2
        have dd3 := HR4.out.d3
        have HJ2 := hid (ro (by decide) (by decide) (by decide) (by decide) (by decide))
        clear r1 r4 r8 r7 r9 ro
        go_wp2_with fail
        all_goals go_roundw
        case rel => exact ⟨k + 1, s', cm, lk, st, lv, sv, by have := HLT.out; omega, by simp, HS2, HJ2, hid (fun i => ⟨by have := (HN.out i).1; omega, by have := (HN.out i).2; omega⟩), HR4⟩
        case measure => have := HLT.out; simp [intOf]; omega
      · as_aux_lemma =>
        -- kind 3
        have HR4 := hid (HR.out.below (HA 3).out)
        have dd2 := HR4.out.d2
        have dd3 := HR4.out.d3
        have HJ2 := hid (ro (by decide) (by decide) (by decide) (by decide) (by decide))
        clear r1 r4 r8 r7 r9 ro
        go_wp2_with fail
        all_goals go_roundw
        case rel => exact ⟨k + 1, s', cm, lk, st, lv, sv, by have := HLT.out; omega, by simp, HS2, HJ2, hid (fun i => ⟨by have := (HN.out i).1; omega, by have := (HN.out i).2; omega⟩), HR4⟩
        case measure => have := HLT.out; simp [intOf]; omega
      · as_aux_lemma =>
        -- kind 4
        have HR4 := hid (HR.out.below (HA 4).out)
        have dd2 := HR4.out.d2
        have dd3 := HR4.out.d3
        obtain ⟨hlast, hj⟩ := r4 rfl
        have HJ2 := hid hj
        have HLAST := hid hlast
        have k0 := HR4.out.k.cell th' (A6_get lv hth6)
        clear r1 r4 r8 r7 r9 ro hj hlast
        rcases (HR4.out.lr th' HL6.out).last with ⟨hnil, hv⟩ | ⟨g, c, m, y, hv, hlen, hy, cy, -⟩
        · rw [hv] at k0
          have HV := hid hv
          clear hv hnil
          go_wp2_with fail
          go_quiet (fail)
          go_wp2_with fail
          refine wp_opaque (fun W => RW w W w2.heap.size (S : Int) (some ⟨b, o, none⟩) l.length cap cm lk st lv sv ∧ W.cell? ⟨wr.heap.size, 3, none⟩ = some (.int .i64 at_) ∧ w2.heap.size + 3 ≤ wr.heap.size) ?_ ?_
          · exact ⟨HR4.out.below (ext_drewN (ext_refl _) _), (Blk.new _ _ _).cell 3 rfl, HR.out.s.lt⟩
          rintro W ⟨hrw, hce, hwr⟩
          have HRW := hid hrw
          have HCE := hid hce
          have HWR := hid hwr
          clear hrw hce hwr
          apply wp_region_app (w2.heap.size + 1) th' 3 (A6 lv) 39 (ints (lk th')) (.int .i64 at_) (fun i => if i = 0 ∨ i = 2 then .int .i64 (th' : Int) else if i = 3 ∨ i = 10 then .pointer (some ⟨w2.heap.size + 1, th', none⟩) else if i = 4 then lv th' else if i = 6 then .pointer (some ⟨wr.heap.size, 3, none⟩) else .int .i64 at_)
          focus (intro vals; simp [putAll, dstOf, Act.put]; rfl)
          case hm => kernel_rfl
          case hd => kernel_rfl
          case hb => kernel_rfl
          case hng => kernel_rfl
          case hsz => kernel_rfl
          case h12 => kernel_rfl
          case hstep =>
            refine ⟨?_, ?_, ?_, ?_, ?_, ?_, ?_, ?_, ?_, ?_, ?_, ?_, trivial⟩
            all_goals (
              intro l1 vs w' hi hd hJ
              refine ⟨(fun g b h => by cases h), fun _ ρ h1 h2 h3 h4 h5 => ?_⟩
              have HQ := hid hJ
              clear hJ)
            · have f8 := h5 8 (by kernel_rfl)
              clear h4 h5
              unfold OpY
              go_simp
              exact HQ.out.put 0 (by decide) hi (ext_refl _) (fun _ => rfl) (fun h => absurd h (by decide)) (fun h => absurd h (by decide)) (fun h => absurd h (by decide))
            · have hlow := HQ.out.low (HQ.out.not (by omega) hi)
              clear h4 h5
              unfold OpY
              go_simp
              exact HQ.out.put 1 (by decide) hi (ext_alloc (ext_refl _) _) (fun h => absurd h (by decide)) (fun _ => ⟨_, rfl, World.ownsRow_made w' #[] 0 hlow.size (by decide) rfl⟩) (fun h => absurd h (by decide)) (fun h => absurd h (by decide))
            · have f8 := h5 8 (by kernel_rfl)
              clear h4 h5
              unfold OpY
              go_simp
              exact HQ.out.put 2 (by decide) hi (ext_refl _) (fun _ => rfl) (fun h => absurd h (by decide)) (fun h => absurd h (by decide)) (fun h => absurd h (by decide))
            · have fa := h5 4 (by kernel_rfl)
              have f2 : ρ (.tmp 78) = (.int .i64 (th' : Int)) := (h4 2 78 (by kernel_rfl) (by kernel_rfl)).trans (HQ.out.kn 2 (by decide) (hd 2 (by kernel_rfl)))
              clear h4 h5
              unfold OpY
              go_simp
              exact HQ.out.put 3 (by decide) hi (ext_refl _) (fun _ => rfl) (fun h => absurd h (by decide)) (fun h => absurd h (by decide)) (fun h => absurd h (by decide))
            · have hlow := HQ.out.low (HQ.out.not (by omega) hi)
              have c := (HRW.out.k.below hlow).cell th' (A6_get lv HL6.out)
              have f3 : ρ (.tmp 79) = (.pointer (some ⟨w2.heap.size + 1, th', none⟩)) := (h4 3 79 (by kernel_rfl) (by kernel_rfl)).trans (HQ.out.kn 3 (by decide) (hd 3 (by kernel_rfl)))
              clear h4 h5
              unfold OpY
              go_simp
              exact HQ.out.put 4 (by decide) hi (ext_refl _) (fun _ => rfl) (fun h => absurd h (by decide)) (fun h => absurd h (by decide)) (fun h => absurd h (by decide))
            · have hlow := HQ.out.low (HQ.out.not (by omega) hi)
              obtain ⟨g1, hv1, hown⟩ := HQ.out.e1 (hd 1 (by kernel_rfl)) hi
              have f1 := (h4 1 77 (by kernel_rfl) (by kernel_rfl)).trans hv1
              have f4 : ρ (.tmp 80) = lv th' := (h4 4 80 (by kernel_rfl) (by kernel_rfl)).trans (HQ.out.kn 4 (by decide) (hd 4 (by kernel_rfl)))
              rw [hv1] at hown
              obtain ⟨v', w'', hrun, hb', hown'⟩ := run_app0 w' W.heap.size 36 36 3 i0 _ 8 Tryd.underlying36 hi0 hz0 hz1 hz2 rfl ⟨g1, 0, none⟩ hown (lv th') (ints (lk th')) ((HRW.out.lr th' HL6.out).old hlow) (ints_one _) (by rw [ints_len]; have := (HN.out th').1; have := HL.out; have := HLT.out; unfold maxLen; omega) (by rw [ints_len]; have := (HN.out th').1; have := HL.out; have := HLT.out; omega) hlow.size
              refine opY_append rfl f1 f4 hrun ?_
              exact HQ.out.put 5 (by decide) hi hb' (fun h => absurd h (by decide)) (fun h => absurd h (by decide)) (fun _ => hown') (fun h => absurd h (by decide))
            · have f7 := h5 7 (by kernel_rfl)
              clear h4 h5
              unfold OpY
              go_simp
              exact HQ.out.put 6 (by decide) hi (ext_refl _) (fun _ => rfl) (fun h => absurd h (by decide)) (fun h => absurd h (by decide)) (fun h => absurd h (by decide))
            · have hlow := HQ.out.low (HQ.out.not (by omega) hi)
              have c := later hlow HCE.out
              have f6 : ρ (.tmp 82) = (.pointer (some ⟨wr.heap.size, 3, none⟩)) := (h4 6 82 (by kernel_rfl) (by kernel_rfl)).trans (HQ.out.kn 6 (by decide) (hd 6 (by kernel_rfl)))
              clear h4 h5
              unfold OpY
              go_simp
              exact HQ.out.put 7 (by decide) hi (ext_refl _) (fun _ => rfl) (fun h => absurd h (by decide)) (fun h => absurd h (by decide)) (fun h => absurd h (by decide))
            · have f7 : ρ (.tmp 83) = (.int .i64 at_) := (h4 7 83 (by kernel_rfl) (by kernel_rfl)).trans (HQ.out.kn 7 (by decide) (hd 7 (by kernel_rfl)))
              clear h4 h5
              unfold OpY
              go_simp
              exact HQ.out.put 8 (by decide) hi (ext_alloc (ext_refl _) _) (fun h => absurd h (by decide)) (fun h => absurd h (by decide)) (fun h => absurd h (by decide)) (fun _ => ⟨_, rfl, (Blk.new _ _ _).cell 0 rfl⟩)
            · have hlow := HQ.out.low (HQ.out.not (by omega) hi)
              obtain ⟨g8, hv8, c8⟩ := HQ.out.e8 (hd 8 (by kernel_rfl)) hi
              have e5 := HQ.out.e5 (hd 5 (by kernel_rfl)) hi
              have f5 : ρ (.tmp 81) = vs 5 := h4 5 81 (by kernel_rfl) (by kernel_rfl)
              have f8 := (h4 8 84 (by kernel_rfl) (by kernel_rfl)).trans hv8
              obtain ⟨v', w'', hrun, hown', hg, -, -⟩ := run_append_own_at w' W.heap.size 36 36 3 i0 _ 1 8 Tryd.underlying36 hi0 hz0 hz1 hz2 rfl (by decide) (vs 5) _ _ e5 ⟨g8, 0, none⟩ 1 1 [.int .i64 at_] rfl (by intro j u hu; cases j with | zero => (simp at hu; subst hu; exact c8) | succ j => (simp at hu)) (by intro u hu; simp at hu; subst hu; rfl) (by rw [ints_len]; have := (HN.out th').1; have := HL.out; have := HLT.out; unfold maxLen; omega) (by rw [ints_len]; have := (HN.out th').1; have := HL.out; have := HLT.out; omega) hlow.size
              refine opY_append rfl f5 f8 hrun ?_
              exact HQ.out.put9 hi (hd 5 (by kernel_rfl)) (hd 8 (by kernel_rfl)) hg hown'
            · have fa := h5 4 (by kernel_rfl)
              have f0 : ρ (.tmp 76) = (.int .i64 (th' : Int)) := (h4 0 76 (by kernel_rfl) (by kernel_rfl)).trans (HQ.out.kn 0 (by decide) (hd 0 (by kernel_rfl)))
              clear h4 h5
              unfold OpY
              go_simp
              exact HQ.out.put 10 (by decide) hi (ext_refl _) (fun _ => rfl) (fun h => absurd h (by decide)) (fun h => absurd h (by decide)) (fun h => absurd h (by decide))
            · have hlow := HQ.out.low hi
              have c := (HRW.out.k.below hlow).cell th' (A6_get lv HL6.out)
              have z := (HRW.out.k.below hlow).free th'
              have f10 : ρ (.tmp 86) = (.pointer (some ⟨w2.heap.size + 1, th', none⟩)) := (h4 10 86 (by kernel_rfl) (by kernel_rfl)).trans (HQ.out.kn 10 (by decide) (hd 10 (by kernel_rfl)))
              obtain ⟨g9, c9, hv9⟩ := own_form (HQ.out.e9 (hd 9 (by kernel_rfl)) hi)
              have f9 := (h4 9 85 (by kernel_rfl) (by kernel_rfl)).trans hv9
              have HV9 := hid hv9
              clear hv9
              have hall : ∀ i, i < 11 → l1 i = true := all11 (hd 0 (by kernel_rfl)) (hd 1 (by kernel_rfl)) (hd 2 (by kernel_rfl)) (hd 3 (by kernel_rfl)) (hd 4 (by kernel_rfl)) (hd 5 (by kernel_rfl)) (hd 6 (by kernel_rfl)) (hd 7 (by kernel_rfl)) (hd 8 (by kernel_rfl)) (hd 9 (by kernel_rfl)) (hd 10 (by kernel_rfl))
              have HALL11 := hid hall
              clear hall
              clear h4 h5
              unfold OpY
              go_simp
              have h := HQ.out.put11 HRW.out.k hi HALL11.out (by simp)
              rw [HV9.out] at h
              exact h
          case hdone =>
            rintro vs w' ⟨v9, hT9, hB9, hR9⟩
            have HRn := hid (HRW.out.locks HL6.out hT9 hB9 hR9)
            have hce' := hT9.cell (by simp; have := HWR.out; omega) HCE.out
            clear hT9 hB9 hR9
            go_wp2_with fail
            all_goals go_roundw
            case rel => exact ⟨k + 1, s', cm, _, st, _, sv, by have := HLT.out; omega, by simp, HS2, HJ2, hid (fun i => ⟨by have := (HN.out i).1; unfold updL; split; (rename_i hh; subst hh; simp; omega); omega, by have := (HN.out i).2; omega⟩), HRn⟩
            case measure => have := HLT.out; simp [intOf]; omega
        · rw [hv] at k0
          have HV := hid hv
          have HLN := hid hlen
          clear hv hlen
          have jy : decide (at_ ≤ y) = false := by rw [decide_eq_false_iff_not]; have := HLAST.out y hy; omega
          have jm : IntKind.i64.wrap ((m : Int) + 1 - 1) = (m : Int) := by rw [Int.add_sub_cancel]; exact IntWalk.i64_in _ (by have := (HN.out th').1; have := HL.out; have := HLT.out; have := HLN.out; omega)
          have jm2 : IntKind.i64.wrap (m : Int) = (m : Int) := by rwa [Int.add_sub_cancel] at jm
          have jp : decide ((0 : Int) < (m : Int) + 1) = true := by rw [decide_eq_true_iff]; omega
          go_wp2_with fail
          go_quiet (fail)
          go_wp2_with fail
          refine wp_opaque (fun W => RW w W w2.heap.size (S : Int) (some ⟨b, o, none⟩) l.length cap cm lk st lv sv ∧ W.cell? ⟨wr.heap.size, 3, none⟩ = some (.int .i64 at_) ∧ w2.heap.size + 3 ≤ wr.heap.size) ?_ ?_
          · exact ⟨HR4.out.below (ext_drewN (ext_refl _) _), (Blk.new _ _ _).cell 3 rfl, HR.out.s.lt⟩
          rintro W ⟨hrw, hce, hwr⟩
          have HRW := hid hrw
          have HCE := hid hce
          have HWR := hid hwr
          clear hrw hce hwr
          apply wp_region_app (w2.heap.size + 1) th' 3 (A6 lv) 39 (ints (lk th')) (.int .i64 at_) (fun i => if i = 0 ∨ i = 2 then .int .i64 (th' : Int) else if i = 3 ∨ i = 10 then .pointer (some ⟨w2.heap.size + 1, th', none⟩) else if i = 4 then lv th' else if i = 6 then .pointer (some ⟨wr.heap.size, 3, none⟩) else .int .i64 at_)
          focus (intro vals; simp [putAll, dstOf, Act.put]; rfl)
          case hm => kernel_rfl
          case hd => kernel_rfl
          case hb => kernel_rfl
          case hng => kernel_rfl
          case hsz => kernel_rfl
          case h12 => kernel_rfl
          case hstep =>
            refine ⟨?_, ?_, ?_, ?_, ?_, ?_, ?_, ?_, ?_, ?_, ?_, ?_, trivial⟩
            all_goals (
              intro l1 vs w' hi hd hJ
              refine ⟨(fun g b h => by cases h), fun _ ρ h1 h2 h3 h4 h5 => ?_⟩
              have HQ := hid hJ
              clear hJ)
            · have f8 := h5 8 (by kernel_rfl)
              clear h4 h5
              unfold OpY
              go_simp
              exact HQ.out.put 0 (by decide) hi (ext_refl _) (fun _ => rfl) (fun h => absurd h (by decide)) (fun h => absurd h (by decide)) (fun h => absurd h (by decide))
            · have hlow := HQ.out.low (HQ.out.not (by omega) hi)
              clear h4 h5
              unfold OpY
              go_simp
              exact HQ.out.put 1 (by decide) hi (ext_alloc (ext_refl _) _) (fun h => absurd h (by decide)) (fun _ => ⟨_, rfl, World.ownsRow_made w' #[] 0 hlow.size (by decide) rfl⟩) (fun h => absurd h (by decide)) (fun h => absurd h (by decide))
            · have f8 := h5 8 (by kernel_rfl)
              clear h4 h5
              unfold OpY
              go_simp
              exact HQ.out.put 2 (by decide) hi (ext_refl _) (fun _ => rfl) (fun h => absurd h (by decide)) (fun h => absurd h (by decide)) (fun h => absurd h (by decide))
            · have fa := h5 4 (by kernel_rfl)
              have f2 : ρ (.tmp 78) = (.int .i64 (th' : Int)) := (h4 2 78 (by kernel_rfl) (by kernel_rfl)).trans (HQ.out.kn 2 (by decide) (hd 2 (by kernel_rfl)))
              clear h4 h5
              unfold OpY
              go_simp
              exact HQ.out.put 3 (by decide) hi (ext_refl _) (fun _ => rfl) (fun h => absurd h (by decide)) (fun h => absurd h (by decide)) (fun h => absurd h (by decide))
            · have hlow := HQ.out.low (HQ.out.not (by omega) hi)
              have c := (HRW.out.k.below hlow).cell th' (A6_get lv HL6.out)
              have f3 : ρ (.tmp 79) = (.pointer (some ⟨w2.heap.size + 1, th', none⟩)) := (h4 3 79 (by kernel_rfl) (by kernel_rfl)).trans (HQ.out.kn 3 (by decide) (hd 3 (by kernel_rfl)))
              clear h4 h5
              unfold OpY
              go_simp
              exact HQ.out.put 4 (by decide) hi (ext_refl _) (fun _ => rfl) (fun h => absurd h (by decide)) (fun h => absurd h (by decide)) (fun h => absurd h (by decide))
            · have hlow := HQ.out.low (HQ.out.not (by omega) hi)
              obtain ⟨g1, hv1, hown⟩ := HQ.out.e1 (hd 1 (by kernel_rfl)) hi
              have f1 := (h4 1 77 (by kernel_rfl) (by kernel_rfl)).trans hv1
              have f4 : ρ (.tmp 80) = lv th' := (h4 4 80 (by kernel_rfl) (by kernel_rfl)).trans (HQ.out.kn 4 (by decide) (hd 4 (by kernel_rfl)))
              rw [hv1] at hown
              obtain ⟨v', w'', hrun, hb', hown'⟩ := run_app0 w' W.heap.size 36 36 3 i0 _ 8 Tryd.underlying36 hi0 hz0 hz1 hz2 rfl ⟨g1, 0, none⟩ hown (lv th') (ints (lk th')) ((HRW.out.lr th' HL6.out).old hlow) (ints_one _) (by rw [ints_len]; have := (HN.out th').1; have := HL.out; have := HLT.out; unfold maxLen; omega) (by rw [ints_len]; have := (HN.out th').1; have := HL.out; have := HLT.out; omega) hlow.size
              refine opY_append rfl f1 f4 hrun ?_
              exact HQ.out.put 5 (by decide) hi hb' (fun h => absurd h (by decide)) (fun h => absurd h (by decide)) (fun _ => hown') (fun h => absurd h (by decide))
            · have f7 := h5 7 (by kernel_rfl)
              clear h4 h5
              unfold OpY
              go_simp
              exact HQ.out.put 6 (by decide) hi (ext_refl _) (fun _ => rfl) (fun h => absurd h (by decide)) (fun h => absurd h (by decide)) (fun h => absurd h (by decide))
            · have hlow := HQ.out.low (HQ.out.not (by omega) hi)
              have c := later hlow HCE.out
              have f6 : ρ (.tmp 82) = (.pointer (some ⟨wr.heap.size, 3, none⟩)) := (h4 6 82 (by kernel_rfl) (by kernel_rfl)).trans (HQ.out.kn 6 (by decide) (hd 6 (by kernel_rfl)))
              clear h4 h5
              unfold OpY
              go_simp
              exact HQ.out.put 7 (by decide) hi (ext_refl _) (fun _ => rfl) (fun h => absurd h (by decide)) (fun h => absurd h (by decide)) (fun h => absurd h (by decide))
            · have f7 : ρ (.tmp 83) = (.int .i64 at_) := (h4 7 83 (by kernel_rfl) (by kernel_rfl)).trans (HQ.out.kn 7 (by decide) (hd 7 (by kernel_rfl)))
              clear h4 h5
              unfold OpY
              go_simp
              exact HQ.out.put 8 (by decide) hi (ext_alloc (ext_refl _) _) (fun h => absurd h (by decide)) (fun h => absurd h (by decide)) (fun h => absurd h (by decide)) (fun _ => ⟨_, rfl, (Blk.new _ _ _).cell 0 rfl⟩)
            · have hlow := HQ.out.low (HQ.out.not (by omega) hi)
              obtain ⟨g8, hv8, c8⟩ := HQ.out.e8 (hd 8 (by kernel_rfl)) hi
              have e5 := HQ.out.e5 (hd 5 (by kernel_rfl)) hi
              have f5 : ρ (.tmp 81) = vs 5 := h4 5 81 (by kernel_rfl) (by kernel_rfl)
              have f8 := (h4 8 84 (by kernel_rfl) (by kernel_rfl)).trans hv8
              obtain ⟨v', w'', hrun, hown', hg, -, -⟩ := run_append_own_at w' W.heap.size 36 36 3 i0 _ 1 8 Tryd.underlying36 hi0 hz0 hz1 hz2 rfl (by decide) (vs 5) _ _ e5 ⟨g8, 0, none⟩ 1 1 [.int .i64 at_] rfl (by intro j u hu; cases j with | zero => (simp at hu; subst hu; exact c8) | succ j => (simp at hu)) (by intro u hu; simp at hu; subst hu; rfl) (by rw [ints_len]; have := (HN.out th').1; have := HL.out; have := HLT.out; unfold maxLen; omega) (by rw [ints_len]; have := (HN.out th').1; have := HL.out; have := HLT.out; omega) hlow.size
              refine opY_append rfl f5 f8 hrun ?_
              exact HQ.out.put9 hi (hd 5 (by kernel_rfl)) (hd 8 (by kernel_rfl)) hg hown'
            · have fa := h5 4 (by kernel_rfl)
              have f0 : ρ (.tmp 76) = (.int .i64 (th' : Int)) := (h4 0 76 (by kernel_rfl) (by kernel_rfl)).trans (HQ.out.kn 0 (by decide) (hd 0 (by kernel_rfl)))
              clear h4 h5
              unfold OpY
              go_simp
              exact HQ.out.put 10 (by decide) hi (ext_refl _) (fun _ => rfl) (fun h => absurd h (by decide)) (fun h => absurd h (by decide)) (fun h => absurd h (by decide))
            · have hlow := HQ.out.low hi
              have c := (HRW.out.k.below hlow).cell th' (A6_get lv HL6.out)
              have z := (HRW.out.k.below hlow).free th'
              have f10 : ρ (.tmp 86) = (.pointer (some ⟨w2.heap.size + 1, th', none⟩)) := (h4 10 86 (by kernel_rfl) (by kernel_rfl)).trans (HQ.out.kn 10 (by decide) (hd 10 (by kernel_rfl)))
              obtain ⟨g9, c9, hv9⟩ := own_form (HQ.out.e9 (hd 9 (by kernel_rfl)) hi)
              have f9 := (h4 9 85 (by kernel_rfl) (by kernel_rfl)).trans hv9
              have HV9 := hid hv9
              clear hv9
              have hall : ∀ i, i < 11 → l1 i = true := all11 (hd 0 (by kernel_rfl)) (hd 1 (by kernel_rfl)) (hd 2 (by kernel_rfl)) (hd 3 (by kernel_rfl)) (hd 4 (by kernel_rfl)) (hd 5 (by kernel_rfl)) (hd 6 (by kernel_rfl)) (hd 7 (by kernel_rfl)) (hd 8 (by kernel_rfl)) (hd 9 (by kernel_rfl)) (hd 10 (by kernel_rfl))
              have HALL11 := hid hall
              clear hall
              clear h4 h5
              unfold OpY
              go_simp
              have h := HQ.out.put11 HRW.out.k hi HALL11.out (by simp)
              rw [HV9.out] at h
              exact h
          case hdone =>
            rintro vs w' ⟨v9, hT9, hB9, hR9⟩
            have HRn := hid (HRW.out.locks HL6.out hT9 hB9 hR9)
            have hce' := hT9.cell (by simp; have := HWR.out; omega) HCE.out
            clear hT9 hB9 hR9
            go_wp2_with fail
            all_goals go_roundw
            case rel => exact ⟨k + 1, s', cm, _, st, _, sv, by have := HLT.out; omega, by simp, HS2, HJ2, hid (fun i => ⟨by have := (HN.out i).1; unfold updL; split; (rename_i hh; subst hh; simp; omega); omega, by have := (HN.out i).2; omega⟩), HRn⟩
            case measure => have := HLT.out; simp [intOf]; omega
      · as_aux_lemma =>
        -- kind 5
        have HR4 := hid (HR.out.below (HA 5).out)
        have dd2 := HR4.out.d2
        have dd3 := HR4.out.d3
        have HJ2 := hid (ro (by decide) (by decide) (by decide) (by decide) (by decide))
        clear r1 r4 r8 r7 r9 ro
        go_wp2_with fail
        all_goals go_roundw
        case rel => exact ⟨k + 1, s', cm, lk, st, lv, sv, by have := HLT.out; omega, by simp, HS2, HJ2, hid (fun i => ⟨by have := (HN.out i).1; omega, by have := (HN.out i).2; omega⟩), HR4⟩
        case measure => have := HLT.out; simp [intOf]; omega
      · as_aux_lemma =>
        -- kind 6
        have HR4 := hid (HR.out.below (HA 6).out)
        have dd2 := HR4.out.d2
        have dd3 := HR4.out.d3
        have HJ2 := hid (ro (by decide) (by decide) (by decide) (by decide) (by decide))
        clear r1 r4 r8 r7 r9 ro
        go_wp2_with fail
        all_goals go_roundw
        case rel => exact ⟨k + 1, s', cm, lk, st, lv, sv, by have := HLT.out; omega, by simp, HS2, HJ2, hid (fun i => ⟨by have := (HN.out i).1; omega, by have := (HN.out i).2; omega⟩), HR4⟩
        case measure => have := HLT.out; simp [intOf]; omega
      · as_aux_lemma =>
        -- kind 7
        have HR4 := hid (HR.out.below (HA 7).out)
        have dd2 := HR4.out.d2
        have dd3 := HR4.out.d3
        have hj := r7 rfl
        have c1 := HR4.out.c.cell th' (A6_get _ hth6)
        have z1 := HR4.out.c.free th'
        clear r1 r4 r8 r7 r9 ro
        by_cases hv : v = 0
        · subst hv
          rw [if_pos rfl] at hj
          have HJ2 := hid hj
          clear hj
          go_wp2_with fail
          all_goals go_roundw
          case rel => exact ⟨k + 1, s', _, lk, st, lv, sv, by have := HLT.out; omega, by simp, HS2, HJ2, hid (fun i => ⟨by have := (HN.out i).1; omega, by have := (HN.out i).2; omega⟩), hid (HR4.out.setC HL6.out (cm th' + 1))⟩
          case measure => have := HLT.out; simp [intOf]; omega
        · rw [if_neg hv] at hj
          have HJ2 := hid hj
          have jv : (v == 0) = false := by simp [hv]
          have jv2 : decide (v = 0) = false := by simp [hv]
          clear hj
          go_wp2_with fail
          all_goals go_roundw
          case rel => exact ⟨k + 1, s', cm, lk, st, lv, sv, by have := HLT.out; omega, by simp, HS2, HJ2, hid (fun i => ⟨by have := (HN.out i).1; omega, by have := (HN.out i).2; omega⟩), HR4⟩
          case measure => have := HLT.out; simp [intOf]; omega
      · as_aux_lemma =>
        -- kind 8
        have HR4 := hid (HR.out.below (HA 8).out)
        have dd2 := HR4.out.d2
        have dd3 := HR4.out.d3
        obtain ⟨⟨hat0, hlast, hin⟩, hj⟩ := r8 rfl
        obtain ⟨q, hq⟩ : ∃ q, q = at_ % (S : Int) := ⟨_, rfl⟩
        have hmod : at_.tmod (S : Int) = q := by rw [Int.tmod_eq_emod_of_nonneg hat0]; exact hq.symm
        have jq0 : (0 : Int) ≤ q := by rw [hq]; exact Int.emod_nonneg _ (by omega)
        have jq1 : q < 32 := by have := Int.emod_lt_of_pos at_ hsz1; have := HS1.out; omega
        have jqw : IntKind.i64.wrap q = q := IntWalk.i64_in _ (by omega)
        rw [← hq] at hin
        have HJ2 := hid hj
        have HLAST := hid hlast
        have HIN := hid hin
        have k0 := HR4.out.s.cell th' (A6_get sv hth6)
        clear r1 r4 r8 r7 r9 ro hj hlast hin hq
        rcases (HR4.out.sr th' HL6.out).last with ⟨hnil, hv⟩ | ⟨g, c, m, y, hv, hlen, hy, cy, -⟩
        · rw [hv] at k0
          have HV := hid hv
          clear hv hnil
          go_wp2_with fail
          go_quiet (fail)
          go_wp2_with fail
          refine wp_opaque (fun W => RW w W w2.heap.size (S : Int) (some ⟨b, o, none⟩) l.length cap cm lk st lv sv ∧ W.cell? ⟨wr.heap.size, 3, none⟩ = some (.int .i64 at_) ∧ w2.heap.size + 3 ≤ wr.heap.size) ?_ ?_
          · exact ⟨HR4.out.below (ext_drewN (ext_refl _) _), (Blk.new _ _ _).cell 3 rfl, HR.out.s.lt⟩
          rintro W ⟨hrw, hce, hwr⟩
          have HRW := hid hrw
          have HCE := hid hce
          have HWR := hid hwr
          clear hrw hce hwr
          apply wp_region_app (w2.heap.size + 2) th' 3 (A6 sv) 39 (ints (st th')) (.int .i64 at_) (fun i => if i = 0 ∨ i = 2 then .int .i64 (th' : Int) else if i = 3 ∨ i = 10 then .pointer (some ⟨w2.heap.size + 2, th', none⟩) else if i = 4 then sv th' else if i = 6 then .pointer (some ⟨wr.heap.size, 3, none⟩) else .int .i64 at_)
          focus (intro vals; simp [putAll, dstOf, Act.put]; rfl)
          case hm => kernel_rfl
          case hd => kernel_rfl
          case hb => kernel_rfl
          case hng => kernel_rfl
          case hsz => kernel_rfl
          case h12 => kernel_rfl
          case hstep =>
            refine ⟨?_, ?_, ?_, ?_, ?_, ?_, ?_, ?_, ?_, ?_, ?_, ?_, trivial⟩
            all_goals (
              intro l1 vs w' hi hd hJ
              refine ⟨(fun g b h => by cases h), fun _ ρ h1 h2 h3 h4 h5 => ?_⟩
              have HQ := hid hJ
              clear hJ)
            · have f8 := h5 8 (by kernel_rfl)
              clear h4 h5
              unfold OpY
              go_simp
              exact HQ.out.put 0 (by decide) hi (ext_refl _) (fun _ => rfl) (fun h => absurd h (by decide)) (fun h => absurd h (by decide)) (fun h => absurd h (by decide))
            · have hlow := HQ.out.low (HQ.out.not (by omega) hi)
              clear h4 h5
              unfold OpY
              go_simp
              exact HQ.out.put 1 (by decide) hi (ext_alloc (ext_refl _) _) (fun h => absurd h (by decide)) (fun _ => ⟨_, rfl, World.ownsRow_made w' #[] 0 hlow.size (by decide) rfl⟩) (fun h => absurd h (by decide)) (fun h => absurd h (by decide))
            · have f8 := h5 8 (by kernel_rfl)
              clear h4 h5
              unfold OpY
              go_simp
              exact HQ.out.put 2 (by decide) hi (ext_refl _) (fun _ => rfl) (fun h => absurd h (by decide)) (fun h => absurd h (by decide)) (fun h => absurd h (by decide))
            · have fa := h5 5 (by kernel_rfl)
              have f2 : ρ (.tmp 111) = (.int .i64 (th' : Int)) := (h4 2 111 (by kernel_rfl) (by kernel_rfl)).trans (HQ.out.kn 2 (by decide) (hd 2 (by kernel_rfl)))
              clear h4 h5
              unfold OpY
              go_simp
              exact HQ.out.put 3 (by decide) hi (ext_refl _) (fun _ => rfl) (fun h => absurd h (by decide)) (fun h => absurd h (by decide)) (fun h => absurd h (by decide))
            · have hlow := HQ.out.low (HQ.out.not (by omega) hi)
              have c := (HRW.out.s.below hlow).cell th' (A6_get sv HL6.out)
              have f3 : ρ (.tmp 112) = (.pointer (some ⟨w2.heap.size + 2, th', none⟩)) := (h4 3 112 (by kernel_rfl) (by kernel_rfl)).trans (HQ.out.kn 3 (by decide) (hd 3 (by kernel_rfl)))
              clear h4 h5
              unfold OpY
              go_simp
              exact HQ.out.put 4 (by decide) hi (ext_refl _) (fun _ => rfl) (fun h => absurd h (by decide)) (fun h => absurd h (by decide)) (fun h => absurd h (by decide))
            · have hlow := HQ.out.low (HQ.out.not (by omega) hi)
              obtain ⟨g1, hv1, hown⟩ := HQ.out.e1 (hd 1 (by kernel_rfl)) hi
              have f1 := (h4 1 110 (by kernel_rfl) (by kernel_rfl)).trans hv1
              have f4 : ρ (.tmp 113) = sv th' := (h4 4 113 (by kernel_rfl) (by kernel_rfl)).trans (HQ.out.kn 4 (by decide) (hd 4 (by kernel_rfl)))
              rw [hv1] at hown
              obtain ⟨v', w'', hrun, hb', hown'⟩ := run_app0 w' W.heap.size 36 36 3 i0 _ 8 Tryd.underlying36 hi0 hz0 hz1 hz2 rfl ⟨g1, 0, none⟩ hown (sv th') (ints (st th')) ((HRW.out.sr th' HL6.out).old hlow) (ints_one _) (by rw [ints_len]; have := (HN.out th').2; have := HL.out; have := HLT.out; unfold maxLen; omega) (by rw [ints_len]; have := (HN.out th').2; have := HL.out; have := HLT.out; omega) hlow.size
              refine opY_append rfl f1 f4 hrun ?_
              exact HQ.out.put 5 (by decide) hi hb' (fun h => absurd h (by decide)) (fun h => absurd h (by decide)) (fun _ => hown') (fun h => absurd h (by decide))
            · have f7 := h5 7 (by kernel_rfl)
              clear h4 h5
              unfold OpY
              go_simp
              exact HQ.out.put 6 (by decide) hi (ext_refl _) (fun _ => rfl) (fun h => absurd h (by decide)) (fun h => absurd h (by decide)) (fun h => absurd h (by decide))
            · have hlow := HQ.out.low (HQ.out.not (by omega) hi)
              have c := later hlow HCE.out
              have f6 : ρ (.tmp 115) = (.pointer (some ⟨wr.heap.size, 3, none⟩)) := (h4 6 115 (by kernel_rfl) (by kernel_rfl)).trans (HQ.out.kn 6 (by decide) (hd 6 (by kernel_rfl)))
              clear h4 h5
              unfold OpY
              go_simp
              exact HQ.out.put 7 (by decide) hi (ext_refl _) (fun _ => rfl) (fun h => absurd h (by decide)) (fun h => absurd h (by decide)) (fun h => absurd h (by decide))
            · have f7 : ρ (.tmp 116) = (.int .i64 at_) := (h4 7 116 (by kernel_rfl) (by kernel_rfl)).trans (HQ.out.kn 7 (by decide) (hd 7 (by kernel_rfl)))
              clear h4 h5
              unfold OpY
              go_simp
              exact HQ.out.put 8 (by decide) hi (ext_alloc (ext_refl _) _) (fun h => absurd h (by decide)) (fun h => absurd h (by decide)) (fun h => absurd h (by decide)) (fun _ => ⟨_, rfl, (Blk.new _ _ _).cell 0 rfl⟩)
            · have hlow := HQ.out.low (HQ.out.not (by omega) hi)
              obtain ⟨g8, hv8, c8⟩ := HQ.out.e8 (hd 8 (by kernel_rfl)) hi
              have e5 := HQ.out.e5 (hd 5 (by kernel_rfl)) hi
              have f5 : ρ (.tmp 114) = vs 5 := h4 5 114 (by kernel_rfl) (by kernel_rfl)
              have f8 := (h4 8 117 (by kernel_rfl) (by kernel_rfl)).trans hv8
              obtain ⟨v', w'', hrun, hown', hg, -, -⟩ := run_append_own_at w' W.heap.size 36 36 3 i0 _ 1 8 Tryd.underlying36 hi0 hz0 hz1 hz2 rfl (by decide) (vs 5) _ _ e5 ⟨g8, 0, none⟩ 1 1 [.int .i64 at_] rfl (by intro j u hu; cases j with | zero => (simp at hu; subst hu; exact c8) | succ j => (simp at hu)) (by intro u hu; simp at hu; subst hu; rfl) (by rw [ints_len]; have := (HN.out th').2; have := HL.out; have := HLT.out; unfold maxLen; omega) (by rw [ints_len]; have := (HN.out th').2; have := HL.out; have := HLT.out; omega) hlow.size
              refine opY_append rfl f5 f8 hrun ?_
              exact HQ.out.put9 hi (hd 5 (by kernel_rfl)) (hd 8 (by kernel_rfl)) hg hown'
            · have fa := h5 5 (by kernel_rfl)
              have f0 : ρ (.tmp 109) = (.int .i64 (th' : Int)) := (h4 0 109 (by kernel_rfl) (by kernel_rfl)).trans (HQ.out.kn 0 (by decide) (hd 0 (by kernel_rfl)))
              clear h4 h5
              unfold OpY
              go_simp
              exact HQ.out.put 10 (by decide) hi (ext_refl _) (fun _ => rfl) (fun h => absurd h (by decide)) (fun h => absurd h (by decide)) (fun h => absurd h (by decide))
            · have hlow := HQ.out.low hi
              have c := (HRW.out.s.below hlow).cell th' (A6_get sv HL6.out)
              have z := (HRW.out.s.below hlow).free th'
              have f10 : ρ (.tmp 119) = (.pointer (some ⟨w2.heap.size + 2, th', none⟩)) := (h4 10 119 (by kernel_rfl) (by kernel_rfl)).trans (HQ.out.kn 10 (by decide) (hd 10 (by kernel_rfl)))
              obtain ⟨g9, c9, hv9⟩ := own_form (HQ.out.e9 (hd 9 (by kernel_rfl)) hi)
              have f9 := (h4 9 118 (by kernel_rfl) (by kernel_rfl)).trans hv9
              have HV9 := hid hv9
              clear hv9
              have hall : ∀ i, i < 11 → l1 i = true := all11 (hd 0 (by kernel_rfl)) (hd 1 (by kernel_rfl)) (hd 2 (by kernel_rfl)) (hd 3 (by kernel_rfl)) (hd 4 (by kernel_rfl)) (hd 5 (by kernel_rfl)) (hd 6 (by kernel_rfl)) (hd 7 (by kernel_rfl)) (hd 8 (by kernel_rfl)) (hd 9 (by kernel_rfl)) (hd 10 (by kernel_rfl))
              have HALL11 := hid hall
              clear hall
              clear h4 h5
              unfold OpY
              go_simp
              have h := HQ.out.put11 HRW.out.s hi HALL11.out (by simp)
              rw [HV9.out] at h
              exact h
          case hdone =>
            rintro vs w' ⟨v9, hT9, hB9, hR9⟩
            have HRn := hid (HRW.out.stores HL6.out hT9 hB9 hR9)
            have hce' := hT9.cell (by simp; have := HWR.out; omega) HCE.out
            clear hT9 hB9 hR9
            rcases (HRn.out.lr th' HL6.out).last with ⟨hn2, -⟩ | ⟨g2, c2, m2, y2, hv2, hlen2, -, -, hcs2⟩
            · have := HIN.out; rw [hn2] at this; cases this
            · have kL := HRn.out.k.cell th' (A6_get lv HL6.out)
              rw [hv2] at kL
              have hd2 := HRn.out.d2
              have HCS := hid hcs2
              have HLN2 := hid hlen2
              have HM2 := hid (show m2 + 1 ≤ 2000 by have := (HN.out th').1; have := HL.out; have := HLT.out; omega)
              clear hv2 hlen2 hcs2
              go_wp2_with fail
              go_loopw [9, 10] (fun tin tk wx => ∃ j : Nat, j ≤ m2 + 1 ∧ tk = .int .i64 (j : Int) ∧ tin = .bool (anyTo (fun z => decide (z = q)) (lk th') j) ∧ Hid (Below w'.heap.size w' wx)) (fun _ tk _ => m2 + 1 - (intOf tk).toNat)
              case atStart => exact ⟨0, Nat.zero_le _, rfl, rfl, hid (ext_refl _)⟩
              case round =>
                obtain ⟨j', hj', rfl, rfl, HX⟩ := hrel
                have x1 := later HX.out kL
                have x2 := later HX.out hce'
                have x3 := later HX.out hd2
                by_cases hjl : j' < m2 + 1
                · have jj1 : decide ((j' : Int) < (m2 : Int) + 1) = true := by rw [decide_eq_true_iff]; omega
                  have jj0 : (0 : Int) ≤ (j' : Int) := by omega
                  have jjr : (j' : Int) < (m2 : Int) + 1 := by omega
                  have jj3 : IntKind.i64.wrap ((j' : Int) + 1) = (j' : Int) + 1 := IntWalk.i64_in _ (by have := HM2.out; omega)
                  have jj4 : decide (j' < m2 + 1) = true := by rw [decide_eq_true_iff]; omega
                  have cj := later HX.out (HCS.out j' (by rw [HLN2.out]; exact hjl))
                  have hstep := anyTo_step (fun z => decide (z = q)) (lk th') j' (by rw [HLN2.out]; exact hjl)
                  obtain ⟨z, hz⟩ : ∃ z, z = (lk th')[j']'(by rw [HLN2.out]; exact hjl) := ⟨_, rfl⟩
                  rw [← hz] at cj hstep
                  have HJL := hid hjl
                  clear hz hjl hj'
                  cases hany : anyTo (fun z => decide (z = q)) (lk th') j' with
                  | true =>
                    have HST := hid hstep
                    rw [hany] at HST
                    clear hstep hany
                    go_wp2_with fail
                    go_quiet (fail)
                    go_wp2_with fail
                    all_goals go_roundw
                    case rel => exact ⟨j' + 1, HJL.out, by simp, by rw [HST.out]; simp, hid (ext_trans HX.out (ext_drewN (ext_refl _) _))⟩
                    case measure => have := HJL.out; simp [intOf]; omega
                  | false =>
                    have HST := hid hstep
                    rw [hany] at HST
                    clear hstep hany
                    by_cases hzq : z = q
                    · have jz : decide (z = q) = true := by simp [hzq]
                      have jz2 : (z == q) = true := by simp [hzq]
                      have HZQ := hid hzq
                      clear hzq
                      go_wp2_with fail
                      go_quiet (fail)
                      go_wp2_with fail
                      all_goals go_roundw
                      case rel => exact ⟨j' + 1, HJL.out, by simp, by rw [HST.out]; simp [jz], hid (ext_trans HX.out (ext_drewN (ext_refl _) _))⟩
                      case measure => have := HJL.out; simp [intOf]; omega
                    · have jz : decide (z = q) = false := by simp [hzq]
                      have jz2 : (z == q) = false := by simp [hzq]
                      have HZQ := hid hzq
                      clear hzq
                      go_wp2_with fail
                      go_quiet (fail)
                      go_wp2_with fail
                      all_goals go_roundw
                      case rel => exact ⟨j' + 1, HJL.out, by simp, by rw [HST.out]; simp [jz], hid (ext_trans HX.out (ext_drewN (ext_refl _) _))⟩
                      case measure => have := HJL.out; simp [intOf]; omega
                · obtain rfl : j' = m2 + 1 := by omega
                  have hall := anyTo_all (p := fun z => decide (z = q)) (l := lk th') ⟨_, HIN.out, by simp⟩
                  rw [HLN2.out] at hall
                  have jj1 : decide ((m2 : Int) + 1 < (m2 : Int) + 1) = false := by rw [decide_eq_false_iff_not]; omega
                  have jj4 : decide (m2 + 1 < m2 + 1) = false := by rw [decide_eq_false_iff_not]; omega
                  rw [hall]
                  clear hall
                  go_wp2_with fail
                  all_goals go_roundw
                  case rel => exact ⟨k + 1, s', cm, lk, _, lv, _, by have := HLT.out; omega, by simp, HS2, HJ2, hid (fun i => ⟨by have := (HN.out i).1; omega, by have := (HN.out i).2; unfold updL; split; (rename_i hh; subst hh; simp; omega); omega⟩), hid (HRn.out.below HX.out)⟩
                  case measure => have := HLT.out; simp [intOf]; omega
        · rw [hv] at k0
          have HV := hid hv
          have HLN := hid hlen
          clear hv hlen
          have jy : decide (at_ ≤ y) = false := by rw [decide_eq_false_iff_not]; have := HLAST.out y hy; omega
          have jm : IntKind.i64.wrap ((m : Int) + 1 - 1) = (m : Int) := by rw [Int.add_sub_cancel]; exact IntWalk.i64_in _ (by have := (HN.out th').2; have := HL.out; have := HLT.out; have := HLN.out; omega)
          have jm2 : IntKind.i64.wrap (m : Int) = (m : Int) := by rwa [Int.add_sub_cancel] at jm
          have jp : decide ((0 : Int) < (m : Int) + 1) = true := by rw [decide_eq_true_iff]; omega
          go_wp2_with fail
          go_quiet (fail)
          go_wp2_with fail
          refine wp_opaque (fun W => RW w W w2.heap.size (S : Int) (some ⟨b, o, none⟩) l.length cap cm lk st lv sv ∧ W.cell? ⟨wr.heap.size, 3, none⟩ = some (.int .i64 at_) ∧ w2.heap.size + 3 ≤ wr.heap.size) ?_ ?_
          · exact ⟨HR4.out.below (ext_drewN (ext_refl _) _), (Blk.new _ _ _).cell 3 rfl, HR.out.s.lt⟩
          rintro W ⟨hrw, hce, hwr⟩
          have HRW := hid hrw
          have HCE := hid hce
          have HWR := hid hwr
          clear hrw hce hwr
          apply wp_region_app (w2.heap.size + 2) th' 3 (A6 sv) 39 (ints (st th')) (.int .i64 at_) (fun i => if i = 0 ∨ i = 2 then .int .i64 (th' : Int) else if i = 3 ∨ i = 10 then .pointer (some ⟨w2.heap.size + 2, th', none⟩) else if i = 4 then sv th' else if i = 6 then .pointer (some ⟨wr.heap.size, 3, none⟩) else .int .i64 at_)
          focus (intro vals; simp [putAll, dstOf, Act.put]; rfl)
          case hm => kernel_rfl
          case hd => kernel_rfl
          case hb => kernel_rfl
          case hng => kernel_rfl
          case hsz => kernel_rfl
          case h12 => kernel_rfl
          case hstep =>
            refine ⟨?_, ?_, ?_, ?_, ?_, ?_, ?_, ?_, ?_, ?_, ?_, ?_, trivial⟩
            all_goals (
              intro l1 vs w' hi hd hJ
              refine ⟨(fun g b h => by cases h), fun _ ρ h1 h2 h3 h4 h5 => ?_⟩
              have HQ := hid hJ
              clear hJ)
            · have f8 := h5 8 (by kernel_rfl)
              clear h4 h5
              unfold OpY
              go_simp
              exact HQ.out.put 0 (by decide) hi (ext_refl _) (fun _ => rfl) (fun h => absurd h (by decide)) (fun h => absurd h (by decide)) (fun h => absurd h (by decide))
            · have hlow := HQ.out.low (HQ.out.not (by omega) hi)
              clear h4 h5
              unfold OpY
              go_simp
              exact HQ.out.put 1 (by decide) hi (ext_alloc (ext_refl _) _) (fun h => absurd h (by decide)) (fun _ => ⟨_, rfl, World.ownsRow_made w' #[] 0 hlow.size (by decide) rfl⟩) (fun h => absurd h (by decide)) (fun h => absurd h (by decide))
            · have f8 := h5 8 (by kernel_rfl)
              clear h4 h5
              unfold OpY
              go_simp
              exact HQ.out.put 2 (by decide) hi (ext_refl _) (fun _ => rfl) (fun h => absurd h (by decide)) (fun h => absurd h (by decide)) (fun h => absurd h (by decide))
            · have fa := h5 5 (by kernel_rfl)
              have f2 : ρ (.tmp 111) = (.int .i64 (th' : Int)) := (h4 2 111 (by kernel_rfl) (by kernel_rfl)).trans (HQ.out.kn 2 (by decide) (hd 2 (by kernel_rfl)))
              clear h4 h5
              unfold OpY
              go_simp
              exact HQ.out.put 3 (by decide) hi (ext_refl _) (fun _ => rfl) (fun h => absurd h (by decide)) (fun h => absurd h (by decide)) (fun h => absurd h (by decide))
            · have hlow := HQ.out.low (HQ.out.not (by omega) hi)
              have c := (HRW.out.s.below hlow).cell th' (A6_get sv HL6.out)
              have f3 : ρ (.tmp 112) = (.pointer (some ⟨w2.heap.size + 2, th', none⟩)) := (h4 3 112 (by kernel_rfl) (by kernel_rfl)).trans (HQ.out.kn 3 (by decide) (hd 3 (by kernel_rfl)))
              clear h4 h5
              unfold OpY
              go_simp
              exact HQ.out.put 4 (by decide) hi (ext_refl _) (fun _ => rfl) (fun h => absurd h (by decide)) (fun h => absurd h (by decide)) (fun h => absurd h (by decide))
            · have hlow := HQ.out.low (HQ.out.not (by omega) hi)
              obtain ⟨g1, hv1, hown⟩ := HQ.out.e1 (hd 1 (by kernel_rfl)) hi
              have f1 := (h4 1 110 (by kernel_rfl) (by kernel_rfl)).trans hv1
              have f4 : ρ (.tmp 113) = sv th' := (h4 4 113 (by kernel_rfl) (by kernel_rfl)).trans (HQ.out.kn 4 (by decide) (hd 4 (by kernel_rfl)))
              rw [hv1] at hown
              obtain ⟨v', w'', hrun, hb', hown'⟩ := run_app0 w' W.heap.size 36 36 3 i0 _ 8 Tryd.underlying36 hi0 hz0 hz1 hz2 rfl ⟨g1, 0, none⟩ hown (sv th') (ints (st th')) ((HRW.out.sr th' HL6.out).old hlow) (ints_one _) (by rw [ints_len]; have := (HN.out th').2; have := HL.out; have := HLT.out; unfold maxLen; omega) (by rw [ints_len]; have := (HN.out th').2; have := HL.out; have := HLT.out; omega) hlow.size
              refine opY_append rfl f1 f4 hrun ?_
              exact HQ.out.put 5 (by decide) hi hb' (fun h => absurd h (by decide)) (fun h => absurd h (by decide)) (fun _ => hown') (fun h => absurd h (by decide))
            · have f7 := h5 7 (by kernel_rfl)
              clear h4 h5
              unfold OpY
              go_simp
              exact HQ.out.put 6 (by decide) hi (ext_refl _) (fun _ => rfl) (fun h => absurd h (by decide)) (fun h => absurd h (by decide)) (fun h => absurd h (by decide))
            · have hlow := HQ.out.low (HQ.out.not (by omega) hi)
              have c := later hlow HCE.out
              have f6 : ρ (.tmp 115) = (.pointer (some ⟨wr.heap.size, 3, none⟩)) := (h4 6 115 (by kernel_rfl) (by kernel_rfl)).trans (HQ.out.kn 6 (by decide) (hd 6 (by kernel_rfl)))
              clear h4 h5
              unfold OpY
              go_simp
              exact HQ.out.put 7 (by decide) hi (ext_refl _) (fun _ => rfl) (fun h => absurd h (by decide)) (fun h => absurd h (by decide)) (fun h => absurd h (by decide))
            · have f7 : ρ (.tmp 116) = (.int .i64 at_) := (h4 7 116 (by kernel_rfl) (by kernel_rfl)).trans (HQ.out.kn 7 (by decide) (hd 7 (by kernel_rfl)))
              clear h4 h5
              unfold OpY
              go_simp
              exact HQ.out.put 8 (by decide) hi (ext_alloc (ext_refl _) _) (fun h => absurd h (by decide)) (fun h => absurd h (by decide)) (fun h => absurd h (by decide)) (fun _ => ⟨_, rfl, (Blk.new _ _ _).cell 0 rfl⟩)
            · have hlow := HQ.out.low (HQ.out.not (by omega) hi)
              obtain ⟨g8, hv8, c8⟩ := HQ.out.e8 (hd 8 (by kernel_rfl)) hi
              have e5 := HQ.out.e5 (hd 5 (by kernel_rfl)) hi
              have f5 : ρ (.tmp 114) = vs 5 := h4 5 114 (by kernel_rfl) (by kernel_rfl)
              have f8 := (h4 8 117 (by kernel_rfl) (by kernel_rfl)).trans hv8
              obtain ⟨v', w'', hrun, hown', hg, -, -⟩ := run_append_own_at w' W.heap.size 36 36 3 i0 _ 1 8 Tryd.underlying36 hi0 hz0 hz1 hz2 rfl (by decide) (vs 5) _ _ e5 ⟨g8, 0, none⟩ 1 1 [.int .i64 at_] rfl (by intro j u hu; cases j with | zero => (simp at hu; subst hu; exact c8) | succ j => (simp at hu)) (by intro u hu; simp at hu; subst hu; rfl) (by rw [ints_len]; have := (HN.out th').2; have := HL.out; have := HLT.out; unfold maxLen; omega) (by rw [ints_len]; have := (HN.out th').2; have := HL.out; have := HLT.out; omega) hlow.size
              refine opY_append rfl f5 f8 hrun ?_
              exact HQ.out.put9 hi (hd 5 (by kernel_rfl)) (hd 8 (by kernel_rfl)) hg hown'
            · have fa := h5 5 (by kernel_rfl)
              have f0 : ρ (.tmp 109) = (.int .i64 (th' : Int)) := (h4 0 109 (by kernel_rfl) (by kernel_rfl)).trans (HQ.out.kn 0 (by decide) (hd 0 (by kernel_rfl)))
              clear h4 h5
              unfold OpY
              go_simp
              exact HQ.out.put 10 (by decide) hi (ext_refl _) (fun _ => rfl) (fun h => absurd h (by decide)) (fun h => absurd h (by decide)) (fun h => absurd h (by decide))
            · have hlow := HQ.out.low hi
              have c := (HRW.out.s.below hlow).cell th' (A6_get sv HL6.out)
              have z := (HRW.out.s.below hlow).free th'
              have f10 : ρ (.tmp 119) = (.pointer (some ⟨w2.heap.size + 2, th', none⟩)) := (h4 10 119 (by kernel_rfl) (by kernel_rfl)).trans (HQ.out.kn 10 (by decide) (hd 10 (by kernel_rfl)))
              obtain ⟨g9, c9, hv9⟩ := own_form (HQ.out.e9 (hd 9 (by kernel_rfl)) hi)
              have f9 := (h4 9 118 (by kernel_rfl) (by kernel_rfl)).trans hv9
              have HV9 := hid hv9
              clear hv9
              have hall : ∀ i, i < 11 → l1 i = true := all11 (hd 0 (by kernel_rfl)) (hd 1 (by kernel_rfl)) (hd 2 (by kernel_rfl)) (hd 3 (by kernel_rfl)) (hd 4 (by kernel_rfl)) (hd 5 (by kernel_rfl)) (hd 6 (by kernel_rfl)) (hd 7 (by kernel_rfl)) (hd 8 (by kernel_rfl)) (hd 9 (by kernel_rfl)) (hd 10 (by kernel_rfl))
              have HALL11 := hid hall
              clear hall
              clear h4 h5
              unfold OpY
              go_simp
              have h := HQ.out.put11 HRW.out.s hi HALL11.out (by simp)
              rw [HV9.out] at h
              exact h
          case hdone =>
            rintro vs w' ⟨v9, hT9, hB9, hR9⟩
            have HRn := hid (HRW.out.stores HL6.out hT9 hB9 hR9)
            have hce' := hT9.cell (by simp; have := HWR.out; omega) HCE.out
            clear hT9 hB9 hR9
            rcases (HRn.out.lr th' HL6.out).last with ⟨hn2, -⟩ | ⟨g2, c2, m2, y2, hv2, hlen2, -, -, hcs2⟩
            · have := HIN.out; rw [hn2] at this; cases this
            · have kL := HRn.out.k.cell th' (A6_get lv HL6.out)
              rw [hv2] at kL
              have hd2 := HRn.out.d2
              have HCS := hid hcs2
              have HLN2 := hid hlen2
              have HM2 := hid (show m2 + 1 ≤ 2000 by have := (HN.out th').1; have := HL.out; have := HLT.out; omega)
              clear hv2 hlen2 hcs2
              go_wp2_with fail
              go_loopw [9, 10] (fun tin tk wx => ∃ j : Nat, j ≤ m2 + 1 ∧ tk = .int .i64 (j : Int) ∧ tin = .bool (anyTo (fun z => decide (z = q)) (lk th') j) ∧ Hid (Below w'.heap.size w' wx)) (fun _ tk _ => m2 + 1 - (intOf tk).toNat)
              case atStart => exact ⟨0, Nat.zero_le _, rfl, rfl, hid (ext_refl _)⟩
              case round =>
                obtain ⟨j', hj', rfl, rfl, HX⟩ := hrel
                have x1 := later HX.out kL
                have x2 := later HX.out hce'
                have x3 := later HX.out hd2
                by_cases hjl : j' < m2 + 1
                · have jj1 : decide ((j' : Int) < (m2 : Int) + 1) = true := by rw [decide_eq_true_iff]; omega
                  have jj0 : (0 : Int) ≤ (j' : Int) := by omega
                  have jjr : (j' : Int) < (m2 : Int) + 1 := by omega
                  have jj3 : IntKind.i64.wrap ((j' : Int) + 1) = (j' : Int) + 1 := IntWalk.i64_in _ (by have := HM2.out; omega)
                  have jj4 : decide (j' < m2 + 1) = true := by rw [decide_eq_true_iff]; omega
                  have cj := later HX.out (HCS.out j' (by rw [HLN2.out]; exact hjl))
                  have hstep := anyTo_step (fun z => decide (z = q)) (lk th') j' (by rw [HLN2.out]; exact hjl)
                  obtain ⟨z, hz⟩ : ∃ z, z = (lk th')[j']'(by rw [HLN2.out]; exact hjl) := ⟨_, rfl⟩
                  rw [← hz] at cj hstep
                  have HJL := hid hjl
                  clear hz hjl hj'
                  cases hany : anyTo (fun z => decide (z = q)) (lk th') j' with
                  | true =>
                    have HST := hid hstep
                    rw [hany] at HST
                    clear hstep hany
                    go_wp2_with fail
                    go_quiet (fail)
                    go_wp2_with fail
                    all_goals go_roundw
                    case rel => exact ⟨j' + 1, HJL.out, by simp, by rw [HST.out]; simp, hid (ext_trans HX.out (ext_drewN (ext_refl _) _))⟩
                    case measure => have := HJL.out; simp [intOf]; omega
                  | false =>
                    have HST := hid hstep
                    rw [hany] at HST
                    clear hstep hany
                    by_cases hzq : z = q
                    · have jz : decide (z = q) = true := by simp [hzq]
                      have jz2 : (z == q) = true := by simp [hzq]
                      have HZQ := hid hzq
                      clear hzq
                      go_wp2_with fail
                      go_quiet (fail)
                      go_wp2_with fail
                      all_goals go_roundw
                      case rel => exact ⟨j' + 1, HJL.out, by simp, by rw [HST.out]; simp [jz], hid (ext_trans HX.out (ext_drewN (ext_refl _) _))⟩
                      case measure => have := HJL.out; simp [intOf]; omega
                    · have jz : decide (z = q) = false := by simp [hzq]
                      have jz2 : (z == q) = false := by simp [hzq]
                      have HZQ := hid hzq
                      clear hzq
                      go_wp2_with fail
                      go_quiet (fail)
                      go_wp2_with fail
                      all_goals go_roundw
                      case rel => exact ⟨j' + 1, HJL.out, by simp, by rw [HST.out]; simp [jz], hid (ext_trans HX.out (ext_drewN (ext_refl _) _))⟩
                      case measure => have := HJL.out; simp [intOf]; omega
                · obtain rfl : j' = m2 + 1 := by omega
                  have hall := anyTo_all (p := fun z => decide (z = q)) (l := lk th') ⟨_, HIN.out, by simp⟩
                  rw [HLN2.out] at hall
                  have jj1 : decide ((m2 : Int) + 1 < (m2 : Int) + 1) = false := by rw [decide_eq_false_iff_not]; omega
                  have jj4 : decide (m2 + 1 < m2 + 1) = false := by rw [decide_eq_false_iff_not]; omega
                  rw [hall]
                  clear hall
                  go_wp2_with fail
                  all_goals go_roundw
                  case rel => exact ⟨k + 1, s', cm, lk, _, lv, _, by have := HLT.out; omega, by simp, HS2, HJ2, hid (fun i => ⟨by have := (HN.out i).1; omega, by have := (HN.out i).2; unfold updL; split; (rename_i hh; subst hh; simp; omega); omega⟩), hid (HRn.out.below HX.out)⟩
                  case measure => have := HLT.out; simp [intOf]; omega
      · as_aux_lemma =>
        -- kind 9
        have HR4 := hid (HR.out.below (HA 9).out)
        have dd2 := HR4.out.d2
        have dd3 := HR4.out.d3
        obtain ⟨⟨hpos, hcov, hne⟩, hj⟩ := r9 rfl
        have HPOS := hid hpos
        have HCOV := hid hcov
        have k0 := HR4.out.k.cell th' (A6_get lv hth6)
        have s0 := HR4.out.s.cell th' (A6_get sv hth6)
        have a0 := (Blk.new wr #[.int .u8 9, .int .i64 (th' : Int), .int .i64 tx, .int .i64 at_, .int .i64 v, .int .i64 x, .int .u8 why] 34).cell 3 rfl
        clear r1 r4 r8 r7 r9 ro hpos hcov
        rcases (HR4.out.lr th' HL6.out).last with ⟨hn2, -⟩ | ⟨g2, c2, m2, y2, hv2, hlen2, hy2, cy2, hcs2⟩
        · exact absurd hn2 hne
        rcases (HR4.out.sr th' HL6.out).last with ⟨hn3, -⟩ | ⟨g3, c3, m3, y3, hv3, hlen3, -, -, hcs3⟩
        · obtain ⟨y, hy, -⟩ := HCOV.out _ (List.mem_of_getLast? hy2); rw [hn3] at hy; cases hy
        rw [hv2] at k0
        rw [hv3] at s0
        rw [hy2] at hj
        have HJ := hid hj
        have HCS2 := hid hcs2
        have HCS3 := hid hcs3
        have HLN2 := hid hlen2
        have HLN3 := hid hlen3
        have HM2 := hid (show m2 + 1 ≤ 2000 by have := (HN.out th').1; have := HL.out; have := HLT.out; omega)
        have HM3 := hid (show m3 + 1 ≤ 2000 by have := (HN.out th').2; have := HL.out; have := HLT.out; omega)
        clear hv2 hlen2 hcs2 hv3 hlen3 hcs3 hy2 hj hne
        obtain ⟨WA, hWA⟩ : ∃ WA, WA = wr.alloc (.cells #[.int .u8 9, .int .i64 (th' : Int), .int .i64 tx, .int .i64 at_, .int .i64 v, .int .i64 x, .int .u8 why] 34) := ⟨_, rfl⟩
        have HWA := hid hWA
        rw [← hWA] at HR4 k0 s0 a0 cy2 HCS2 HCS3
        clear hWA
        go_wp2_with fail
        rw [← HWA.out]
        go_loopw [11] (fun ti wx => ∃ i : Nat, i ≤ m2 + 1 ∧ ti = .int .i64 (i : Int) ∧ Hid (Below WA.heap.size WA wx)) (fun ti _ => m2 + 1 - (intOf ti).toNat)
        case atStart => exact ⟨0, Nat.zero_le _, rfl, hid (ext_refl _)⟩
        case round =>
          obtain ⟨i, hi, rfl, HX⟩ := hrel
          have x1 := later HX.out k0
          have x2 := later HX.out s0
          have x3 := later HX.out a0
          by_cases hil : i < m2 + 1
          · have ji1 : decide ((i : Int) < (m2 : Int) + 1) = true := by rw [decide_eq_true_iff]; omega
            have ji0 : (0 : Int) ≤ (i : Int) := by omega
            have jir : (i : Int) < (m2 : Int) + 1 := by omega
            have ji3 : IntKind.i64.wrap ((i : Int) + 1) = (i : Int) + 1 := IntWalk.i64_in _ (by have := HM2.out; omega)
            have ji4 : decide (i < m2 + 1) = true := by rw [decide_eq_true_iff]; omega
            have ci := HCS2.out i (by rw [HLN2.out]; exact hil)
            obtain ⟨y, hy⟩ : ∃ y, y = (lk th')[i]'(by rw [HLN2.out]; exact hil) := ⟨_, rfl⟩
            have hyc := HCOV.out y (by rw [hy]; exact List.getElem_mem _)
            rw [← hy] at ci
            have HYC := hid hyc
            have HIL := hid hil
            clear hy hil hyc hi
            go_wp2_with fail
            go_loopw [12, 13] (fun tin tk wy => ∃ j : Nat, j ≤ m3 + 1 ∧ tk = .int .i64 (j : Int) ∧ tin = .bool (anyTo (fun z => decide (z % (S : Int) = y)) (st th') j) ∧ Hid (Below WA.heap.size WA wy)) (fun _ tk _ => m3 + 1 - (intOf tk).toNat)
            case atStart => exact ⟨0, Nat.zero_le _, rfl, rfl, HX⟩
            case round =>
              obtain ⟨j', hj', rfl, rfl, HY⟩ := hrel
              clear x1 x2 x3
              have x1 := later HY.out k0
              have x2 := later HY.out s0
              have x3 := later HY.out a0
              have x4 := later HY.out HR4.out.d2
              have x5 := later HY.out ci
              by_cases hjl : j' < m3 + 1
              · have jj1 : decide ((j' : Int) < (m3 : Int) + 1) = true := by rw [decide_eq_true_iff]; omega
                have jj0 : (0 : Int) ≤ (j' : Int) := by omega
                have jjr : (j' : Int) < (m3 : Int) + 1 := by omega
                have jj3 : IntKind.i64.wrap ((j' : Int) + 1) = (j' : Int) + 1 := IntWalk.i64_in _ (by have := HM3.out; omega)
                have jj4 : decide (j' < m3 + 1) = true := by rw [decide_eq_true_iff]; omega
                have cj := later HY.out (HCS3.out j' (by rw [HLN3.out]; exact hjl))
                have hstep := anyTo_step (fun z => decide (z % (S : Int) = y)) (st th') j' (by rw [HLN3.out]; exact hjl)
                obtain ⟨z, hz⟩ : ∃ z, z = (st th')[j']'(by rw [HLN3.out]; exact hjl) := ⟨_, rfl⟩
                have hz0 := HPOS.out z (by rw [hz]; exact List.getElem_mem _)
                obtain ⟨q, hq⟩ : ∃ q, q = z % (S : Int) := ⟨_, rfl⟩
                have hmod : z.tmod (S : Int) = q := by rw [Int.tmod_eq_emod_of_nonneg hz0]; exact hq.symm
                have jq0 : (0 : Int) ≤ q := by rw [hq]; exact Int.emod_nonneg _ (by omega)
                have jq1 : q < 32 := by have := Int.emod_lt_of_pos z hsz1; have := HS1.out; omega
                have jqw : IntKind.i64.wrap q = q := IntWalk.i64_in _ (by omega)
                rw [← hz] at cj hstep
                rw [← hq] at hstep
                have HJL := hid hjl
                clear hz hjl hj' hz0 hq
                cases hany : anyTo (fun z => decide (z % (S : Int) = y)) (st th') j' with
                | true =>
                  have HST := hid hstep
                  rw [hany] at HST
                  clear hstep hany
                  go_wp2_with fail
                  go_quiet (fail)
                  go_wp2_with fail
                  all_goals go_roundw
                  case rel => exact ⟨j' + 1, HJL.out, by simp, by rw [HST.out]; simp, hid (ext_trans HY.out (ext_drewN (ext_refl _) _))⟩
                  case measure => have := HJL.out; simp [intOf]; omega
                | false =>
                  have HST := hid hstep
                  rw [hany] at HST
                  clear hstep hany
                  by_cases hzq : q = y
                  · have jz : decide (q = y) = true := by simp [hzq]
                    have jz2 : (q == y) = true := by simp [hzq]
                    have HZQ := hid hzq
                    clear hzq
                    go_wp2_with fail
                    go_quiet (fail)
                    go_wp2_with fail
                    all_goals go_roundw
                    case rel => exact ⟨j' + 1, HJL.out, by simp, by rw [HST.out]; simp [jz], hid (ext_trans HY.out (ext_drewN (ext_refl _) _))⟩
                    case measure => have := HJL.out; simp [intOf]; omega
                  · have jz : decide (q = y) = false := by simp [hzq]
                    have jz2 : (q == y) = false := by simp [hzq]
                    have HZQ := hid hzq
                    clear hzq
                    go_wp2_with fail
                    go_quiet (fail)
                    go_wp2_with fail
                    all_goals go_roundw
                    case rel => exact ⟨j' + 1, HJL.out, by simp, by rw [HST.out]; simp [jz], hid (ext_trans HY.out (ext_drewN (ext_refl _) _))⟩
                    case measure => have := HJL.out; simp [intOf]; omega
              · obtain rfl : j' = m3 + 1 := by omega
                have hall := anyTo_all (p := fun z => decide (z % (S : Int) = y)) (l := st th') (by obtain ⟨z, h1, h2⟩ := HYC.out; exact ⟨z, h1, by simp [h2]⟩)
                rw [HLN3.out] at hall
                have jj1 : decide ((m3 : Int) + 1 < (m3 : Int) + 1) = false := by rw [decide_eq_false_iff_not]; omega
                have jj4 : decide (m3 + 1 < m3 + 1) = false := by rw [decide_eq_false_iff_not]; omega
                rw [hall]
                clear hall
                go_wp2_with fail
                all_goals go_roundw
                case rel => exact ⟨i + 1, HIL.out, by simp, HY⟩
                case measure => have := HIL.out; simp [intOf]; omega
          · obtain rfl : i = m2 + 1 := by omega
            have ji1 : decide ((m2 : Int) + 1 < (m2 : Int) + 1) = false := by rw [decide_eq_false_iff_not]; omega
            have ji4 : decide (m2 + 1 < m2 + 1) = false := by rw [decide_eq_false_iff_not]; omega
            have jm : IntKind.i64.wrap ((m2 : Int) + 1 - 1) = (m2 : Int) := by rw [Int.add_sub_cancel]; exact IntWalk.i64_in _ (by have := HM2.out; omega)
            have jm2 : IntKind.i64.wrap (m2 : Int) = (m2 : Int) := by rwa [Int.add_sub_cancel] at jm
            have x4 := later HX.out cy2
            have HRX := hid (HR4.out.below HX.out)
            have c1 := HRX.out.c.cell th' (A6_get _ HL6.out)
            have z1 := HRX.out.c.free th'
            by_cases hya : y2 = at_
            · have jy : decide (y2 = at_) = true := by simp [hya]
              have jy2 : (y2 == at_) = true := by simp [hya]
              have HJ2 := HJ.out
              rw [if_pos (by rw [hya])] at HJ2
              have HJ3 := hid HJ2
              clear HJ2 hya
              go_wp2_with fail
              go_quiet (fail)
              go_wp2_with fail
              all_goals go_roundw
              case rel => exact ⟨k + 1, s', _, lk, st, lv, sv, by have := HLT.out; omega, by simp, HS2, HJ3, hid (fun i => ⟨by have := (HN.out i).1; omega, by have := (HN.out i).2; omega⟩), hid ((HRX.out.below (ext_drewN (ext_refl _) _)).setC HL6.out (cm th' + 1))⟩
              case measure => have := HLT.out; simp [intOf]; omega
            · have jy : decide (y2 = at_) = false := by simp [hya]
              have jy2 : (y2 == at_) = false := by simp [hya]
              have HJ2 := HJ.out
              rw [if_neg (by intro h; exact hya (Option.some.inj h))] at HJ2
              have HJ3 := hid HJ2
              clear HJ2 hya
              go_wp2_with fail
              go_quiet (fail)
              go_wp2_with fail
              all_goals go_roundw
              case rel => exact ⟨k + 1, s', cm, lk, st, lv, sv, by have := HLT.out; omega, by simp, HS2, HJ3, hid (fun i => ⟨by have := (HN.out i).1; omega, by have := (HN.out i).2; omega⟩), hid (HRX.out.below (ext_drewN (ext_refl _) _))⟩
              case measure => have := HLT.out; simp [intOf]; omega
      · as_aux_lemma =>
        -- kind 10
        have HR4 := hid (HR.out.below (HA 10).out)
        have dd2 := HR4.out.d2
        have dd3 := HR4.out.d3
        have HJ2 := hid (ro (by decide) (by decide) (by decide) (by decide) (by decide))
        clear r1 r4 r8 r7 r9 ro
        go_wp2_with fail
        all_goals go_roundw
        case rel => exact ⟨k + 1, s', cm, lk, st, lv, sv, by have := HLT.out; omega, by simp, HS2, HJ2, hid (fun i => ⟨by have := (HN.out i).1; omega, by have := (HN.out i).2; omega⟩), HR4⟩
        case measure => have := HLT.out; simp [intOf]; omega
      · as_aux_lemma =>
        -- kind 11
        have HR4 := hid (HR.out.below (HA 11).out)
        have dd2 := HR4.out.d2
        have dd3 := HR4.out.d3
        have HJ2 := hid (ro (by decide) (by decide) (by decide) (by decide) (by decide))
        clear r1 r4 r8 r7 r9 ro
        go_wp2_with fail
        all_goals go_roundw
        case rel => exact ⟨k + 1, s', cm, lk, st, lv, sv, by have := HLT.out; omega, by simp, HS2, HJ2, hid (fun i => ⟨by have := (HN.out i).1; omega, by have := (HN.out i).2; omega⟩), HR4⟩
        case measure => have := HLT.out; simp [intOf]; omega
      · as_aux_lemma =>
        -- kind 12
        have HR4 := hid (HR.out.below (HA 12).out)
        have dd2 := HR4.out.d2
        have dd3 := HR4.out.d3
        have HJ2 := hid (ro (by decide) (by decide) (by decide) (by decide) (by decide))
        clear r1 r4 r8 r7 r9 ro
        go_wp2_with fail
        all_goals go_roundw
        case rel => exact ⟨k + 1, s', cm, lk, st, lv, sv, by have := HLT.out; omega, by simp, HS2, HJ2, hid (fun i => ⟨by have := (HN.out i).1; omega, by have := (HN.out i).2; omega⟩), HR4⟩
        case measure => have := HLT.out; simp [intOf]; omega
      · as_aux_lemma =>
        -- kind 13
        have HR4 := hid (HR.out.below (HA 13).out)
        have dd2 := HR4.out.d2
        have dd3 := HR4.out.d3
        have HJ2 := hid (ro (by decide) (by decide) (by decide) (by decide) (by decide))
        clear r1 r4 r8 r7 r9 ro
        go_wp2_with fail
        all_goals go_roundw
        case rel => exact ⟨k + 1, s', cm, lk, st, lv, sv, by have := HLT.out; omega, by simp, HS2, HJ2, hid (fun i => ⟨by have := (HN.out i).1; omega, by have := (HN.out i).2; omega⟩), HR4⟩
        case measure => have := HLT.out; simp [intOf]; omega
    · obtain rfl : k = l.length := by omega
      have j1 : decide ((l.length : Int) < (l.length : Int)) = false := by rw [decide_eq_false_iff_not]; omega
      have j4 : decide (l.length < l.length) = false := by rw [decide_eq_false_iff_not]; omega
      go_wp2_with fail
      go_ret
      exact ⟨rfl, HR.out.low⟩
theorem shapeRow_any (T V S : Int) (a : Option Addr) (l : List Ev) (cap : Nat) (w : World) (hE : EvsAt w a l) (hK : KindsAt w) (hT : TabOk w) :
    Calls Tryd.prog 8 #[trA T V S a l.length cap] w fun e w' => e = .returned (.bool true) ∧ Below w.heap.size w w' := by
  by_cases hl : 2000 < l.length
  · exact row_great T V S a _ cap w hl hK hT
  have hl' : l.length ≤ 2000 := by omega
  cases hf : fineT T V S l with
  | false => exact row_no T V S a l cap w hl' hf hE hK hT
  | true =>
    obtain ⟨h1, h2, h3, h4, h5, h6⟩ := sizeOk_of (fineT_ok hl' hf).1
    obtain ⟨T, rfl⟩ := Int.eq_ofNat_of_zero_le h1
    obtain ⟨V, rfl⟩ := Int.eq_ofNat_of_zero_le (show 0 ≤ V by omega)
    obtain ⟨S, rfl⟩ := Int.eq_ofNat_of_zero_le (show 0 ≤ S by omega)
    exact row_loop T V S a l cap w hl' hf hE hK hT
end Go.Proofs.YtmgchpijkdammaaDoor
