/-
  Walk: whether an event may be told (its first region is printed by gen_line6.py).
-/
import Derived.Test.YtokkafiphchejaaDoorDeL6h
import Derived.Test.YtokkafiphchejaaDoorShN
namespace Go.Proofs.YtokkafiphchejaaDoor
set_option linter.unusedVariables false
set_option linter.unusedSimpArgs false
set_option linter.unusedVariables false
open Go Go.RowKit
set_option maxRecDepth 100000 in
set_option maxHeartbeats 4000000 in
theorem tells_any (T V S : Int) (c : Cdr) (kind tx at_ v x why : Int) (th : Nat) (C : Nat) (W : World) (hok : EvOk ⟨kind, (th : Int), tx, at_, v, x, why⟩) (hC : Blk W C (cdrA T V S c) 74) (hKd : KindsAt W) (hT : 1 ≤ T ∧ T ≤ 6) (hV : 1 ≤ V ∧ V ≤ 32) (hS : 1 ≤ S ∧ S ≤ 32) :
    Calls Tryd.prog 29 #[.pointer (some ⟨C, 0, none⟩), evA ⟨kind, (th : Int), tx, at_, v, x, why⟩] W fun e' W' => e' = .returned (.bool (tellsC T V S c ⟨kind, (th : Int), tx, at_, v, x, why⟩)) ∧ Below W.heap.size W W' := by
  obtain ⟨WB, hWB⟩ : ∃ WB, WB = W.alloc (.cells #[.int .u8 kind, .int .i64 (th : Int), .int .i64 tx, .int .i64 at_, .int .i64 v, .int .i64 x, .int .u8 why] 33) := ⟨_, rfl⟩
  have HLOW : Hid (Below W.heap.size W WB) := hid (by rw [hWB]; exact ext_alloc (ext_refl _) _)
  have HBE : Hid (Blk WB W.heap.size #[.int .u8 kind, .int .i64 (th : Int), .int .i64 tx, .int .i64 at_, .int .i64 v, .int .i64 x, .int .u8 why] 33) := hid (by rw [hWB]; exact Blk.new _ _ _)
  have HBC := hid (hC.below HLOW.out)
  obtain ⟨m, hm⟩ : ∃ m, m = mayE ⟨kind, (th : Int), tx, at_, v, x, why⟩ T V S := ⟨_, rfl⟩
  have HN := hid (fun W' (h : Below WB.heap.size WB W') => may_any ⟨kind, (th : Int), tx, at_, v, x, why⟩ T V S W' hok (hKd.below (ext_trans HLOW.out h)))
  rw [← hm] at HN
  obtain ⟨mn, hmn⟩ : ∃ mn, (!m) = mn := ⟨_, rfl⟩
  have ht0 : tellsC T V S c ⟨kind, (th : Int), tx, at_, v, x, why⟩ = (m && if kind = 1 then decide (c.clock ≤ v) else if kind = 2 then decide (v ≤ c.begun th) else if kind = 5 then decide (c.clock < v) else if kind = 7 then decide (v = 0 ∨ v = c.bumped th) else true) := by unfold tellsC; rw [← hm]
  obtain ⟨res, hres⟩ : ∃ res, res = tellsC T V S c ⟨kind, (th : Int), tx, at_, v, x, why⟩ := ⟨_, rfl⟩
  rw [ht0] at hres
  rw [ht0, ← hres]
  have HRES := hid hres
  clear ht0 hres
  have hin := fun (h : m = true) => may_sizes' (e := ⟨kind, (th : Int), tx, at_, v, x, why⟩) (T := T) (V := V) (S := S) (by rw [← hm]; exact h)
  dsimp only at hin
  dsimp only [evA] at HN ⊢
  have HIN := hid hin
  have HWB := hid hWB
  clear hC hKd hT hV hS hm hin hWB hok
  go_enter Tryd.func29, Tryd.ntmps29
  go_wp2_with fail
  rw [← HWB.out]
  apply wp_region_knownJ (fun qq => ([.agg #[.int .u8 kind, .int .i64 (th : Int), .int .i64 tx, .int .i64 at_, .int .i64 v, .int .i64 x, .int .u8 why], .pointer (some ⟨C, 0, none⟩), .pointer (some ⟨C, 0, none⟩), .pointer (some ⟨C, 0, none⟩), .int .i64 (T), .pointer (some ⟨C, 0, none⟩), .pointer (some ⟨C, 0, none⟩), .pointer (some ⟨C, 1, none⟩), .int .i64 (V), .pointer (some ⟨C, 0, none⟩), .pointer (some ⟨C, 0, none⟩), .pointer (some ⟨C, 2, none⟩), .int .i64 (S), .bool m, .bool mn] : List Value).getD qq undef) (LQ WB [] (fun (_ : Unit) _ => True) () 13)
  focus (simp [putAll, dstOf, Act.put, List.getD]; rfl)
  case hm => kernel_rfl
  case hd => kernel_rfl
  case hb => kernel_rfl
  case hng => kernel_rfl
  case hsz => kernel_rfl
  case hext => exact fun l l' w h H => H.ext (n := 15) (by decide) (fun i hi => h i hi)
  case h0 => exact LQ.start
  case hstep =>
    refine ⟨?_, ?_, ?_, ?_, ?_, ?_, ?_, ?_, ?_, ?_, ?_, ?_, ?_, ?_, ?_,  trivial⟩
    · refine ⟨(fun g b h => by cases h), fun l w' hl hdp hJ hg ρ h1 h2 h3 h4 h5 => ?_⟩
      have HJ := hid hJ
      clear hJ
      have f3 : ρ (.tmp 3) = .pointer (some ⟨W.heap.size, 0, none⟩) := h5 3 (by kernel_rfl)
      have hbe := HJ.out.turn.blk (by simp) HBE.out
      have e0 := hbe.cell 0 (v := .int .u8 (kind)) rfl
      have e1 := hbe.cell 1 (v := .int .i64 ((th : Int))) rfl
      have e2 := hbe.cell 2 (v := .int .i64 (tx)) rfl
      have e3 := hbe.cell 3 (v := .int .i64 (at_)) rfl
      have e4 := hbe.cell 4 (v := .int .i64 (v)) rfl
      have e5 := hbe.cell 5 (v := .int .i64 (x)) rfl
      have e6 := hbe.cell 6 (v := .int .u8 (why)) rfl
      clear hbe
      clear h4 h5 hg
      unfold OpY
      go_simp
      first | exact ⟨rfl, HJ.out.put 0 (by decide)⟩ | exact ⟨Or.inr rfl, HJ.out.put 0 (by decide)⟩
    · refine ⟨(fun g b h => by cases h), fun l w' hl hdp hJ hg ρ h1 h2 h3 h4 h5 => ?_⟩
      have HJ := hid hJ
      clear hJ
      have f0 : ρ (.tmp 0) = .pointer (some ⟨C, 0, none⟩) := h5 0 (by kernel_rfl)
      clear h4 h5 hg
      unfold OpY
      go_simp
      first | exact ⟨rfl, HJ.out.put 1 (by decide)⟩ | exact ⟨Or.inr rfl, HJ.out.put 1 (by decide)⟩
    · refine ⟨(fun g b h => by cases h), fun l w' hl hdp hJ hg ρ h1 h2 h3 h4 h5 => ?_⟩
      have HJ := hid hJ
      clear hJ
      have f6 : ρ (.tmp 6) = .pointer (some ⟨C, 0, none⟩) := h4 1 6 (by kernel_rfl) (by kernel_rfl)
      clear h4 h5 hg
      unfold OpY
      go_simp
      first | exact ⟨rfl, HJ.out.put 2 (by decide)⟩ | exact ⟨Or.inr rfl, HJ.out.put 2 (by decide)⟩
    · refine ⟨(fun g b h => by cases h), fun l w' hl hdp hJ hg ρ h1 h2 h3 h4 h5 => ?_⟩
      have HJ := hid hJ
      clear hJ
      have f7 : ρ (.tmp 7) = .pointer (some ⟨C, 0, none⟩) := h4 2 7 (by kernel_rfl) (by kernel_rfl)
      clear h4 h5 hg
      unfold OpY
      go_simp
      first | exact ⟨rfl, HJ.out.put 3 (by decide)⟩ | exact ⟨Or.inr rfl, HJ.out.put 3 (by decide)⟩
    · refine ⟨(fun g b h => by cases h), fun l w' hl hdp hJ hg ρ h1 h2 h3 h4 h5 => ?_⟩
      have HJ := hid hJ
      clear hJ
      have f8 : ρ (.tmp 8) = .pointer (some ⟨C, 0, none⟩) := h4 3 8 (by kernel_rfl) (by kernel_rfl)
      have c : w'.cell? ⟨C, 0, none⟩ = some (.int .i64 (T)) := (HJ.out.turn.blk (by simp) HBC.out).cell 0 rfl
      clear h4 h5 hg
      unfold OpY
      go_simp
      first | exact ⟨rfl, HJ.out.put 4 (by decide)⟩ | exact ⟨Or.inr rfl, HJ.out.put 4 (by decide)⟩
    · refine ⟨(fun g b h => by cases h), fun l w' hl hdp hJ hg ρ h1 h2 h3 h4 h5 => ?_⟩
      have HJ := hid hJ
      clear hJ
      have f0 : ρ (.tmp 0) = .pointer (some ⟨C, 0, none⟩) := h5 0 (by kernel_rfl)
      clear h4 h5 hg
      unfold OpY
      go_simp
      first | exact ⟨rfl, HJ.out.put 5 (by decide)⟩ | exact ⟨Or.inr rfl, HJ.out.put 5 (by decide)⟩
    · refine ⟨(fun g b h => by cases h), fun l w' hl hdp hJ hg ρ h1 h2 h3 h4 h5 => ?_⟩
      have HJ := hid hJ
      clear hJ
      have f10 : ρ (.tmp 10) = .pointer (some ⟨C, 0, none⟩) := h4 5 10 (by kernel_rfl) (by kernel_rfl)
      clear h4 h5 hg
      unfold OpY
      go_simp
      first | exact ⟨rfl, HJ.out.put 6 (by decide)⟩ | exact ⟨Or.inr rfl, HJ.out.put 6 (by decide)⟩
    · refine ⟨(fun g b h => by cases h), fun l w' hl hdp hJ hg ρ h1 h2 h3 h4 h5 => ?_⟩
      have HJ := hid hJ
      clear hJ
      have f11 : ρ (.tmp 11) = .pointer (some ⟨C, 0, none⟩) := h4 6 11 (by kernel_rfl) (by kernel_rfl)
      clear h4 h5 hg
      unfold OpY
      go_simp
      first | exact ⟨rfl, HJ.out.put 7 (by decide)⟩ | exact ⟨Or.inr rfl, HJ.out.put 7 (by decide)⟩
    · refine ⟨(fun g b h => by cases h), fun l w' hl hdp hJ hg ρ h1 h2 h3 h4 h5 => ?_⟩
      have HJ := hid hJ
      clear hJ
      have f12 : ρ (.tmp 12) = .pointer (some ⟨C, 1, none⟩) := h4 7 12 (by kernel_rfl) (by kernel_rfl)
      have c : w'.cell? ⟨C, 1, none⟩ = some (.int .i64 (V)) := (HJ.out.turn.blk (by simp) HBC.out).cell 1 rfl
      clear h4 h5 hg
      unfold OpY
      go_simp
      first | exact ⟨rfl, HJ.out.put 8 (by decide)⟩ | exact ⟨Or.inr rfl, HJ.out.put 8 (by decide)⟩
    · refine ⟨(fun g b h => by cases h), fun l w' hl hdp hJ hg ρ h1 h2 h3 h4 h5 => ?_⟩
      have HJ := hid hJ
      clear hJ
      have f0 : ρ (.tmp 0) = .pointer (some ⟨C, 0, none⟩) := h5 0 (by kernel_rfl)
      clear h4 h5 hg
      unfold OpY
      go_simp
      first | exact ⟨rfl, HJ.out.put 9 (by decide)⟩ | exact ⟨Or.inr rfl, HJ.out.put 9 (by decide)⟩
    · refine ⟨(fun g b h => by cases h), fun l w' hl hdp hJ hg ρ h1 h2 h3 h4 h5 => ?_⟩
      have HJ := hid hJ
      clear hJ
      have f14 : ρ (.tmp 14) = .pointer (some ⟨C, 0, none⟩) := h4 9 14 (by kernel_rfl) (by kernel_rfl)
      clear h4 h5 hg
      unfold OpY
      go_simp
      first | exact ⟨rfl, HJ.out.put 10 (by decide)⟩ | exact ⟨Or.inr rfl, HJ.out.put 10 (by decide)⟩
    · refine ⟨(fun g b h => by cases h), fun l w' hl hdp hJ hg ρ h1 h2 h3 h4 h5 => ?_⟩
      have HJ := hid hJ
      clear hJ
      have f15 : ρ (.tmp 15) = .pointer (some ⟨C, 0, none⟩) := h4 10 15 (by kernel_rfl) (by kernel_rfl)
      clear h4 h5 hg
      unfold OpY
      go_simp
      first | exact ⟨rfl, HJ.out.put 11 (by decide)⟩ | exact ⟨Or.inr rfl, HJ.out.put 11 (by decide)⟩
    · refine ⟨(fun g b h => by cases h), fun l w' hl hdp hJ hg ρ h1 h2 h3 h4 h5 => ?_⟩
      have HJ := hid hJ
      clear hJ
      have f16 : ρ (.tmp 16) = .pointer (some ⟨C, 2, none⟩) := h4 11 16 (by kernel_rfl) (by kernel_rfl)
      have c : w'.cell? ⟨C, 2, none⟩ = some (.int .i64 (S)) := (HJ.out.turn.blk (by simp) HBC.out).cell 2 rfl
      clear h4 h5 hg
      unfold OpY
      go_simp
      first | exact ⟨rfl, HJ.out.put 12 (by decide)⟩ | exact ⟨Or.inr rfl, HJ.out.put 12 (by decide)⟩
    · refine ⟨(fun g b h => by cases h), fun l w' hl hdp hJ hg ρ h1 h2 h3 h4 h5 => ?_⟩
      have HJ := hid hJ
      clear hJ
      have f5 : ρ (.tmp 5) = .agg #[.int .u8 kind, .int .i64 (th : Int), .int .i64 tx, .int .i64 at_, .int .i64 v, .int .i64 x, .int .u8 why] := h4 0 5 (by kernel_rfl) (by kernel_rfl)
      have f9 : ρ (.tmp 9) = .int .i64 (T) := h4 4 9 (by kernel_rfl) (by kernel_rfl)
      have f13 : ρ (.tmp 13) = .int .i64 (V) := h4 8 13 (by kernel_rfl) (by kernel_rfl)
      have f17 : ρ (.tmp 17) = .int .i64 (S) := h4 12 17 (by kernel_rfl) (by kernel_rfl)
      clear h4 h5 hg
      unfold OpY
      go_simp
      unfold OpR
      have h0 := HJ.out.pre hl
      subst h0
      refine (HN.out _ (ext_drew (ext_refl _))).mono ?_
      rintro e' w'' ⟨rfl, hb'⟩
      first | exact ⟨_, rfl, rfl, LQ.call trivial (Turn.of_below hb')⟩ | exact ⟨_, rfl, Or.inr rfl, LQ.call trivial (Turn.of_below hb')⟩
    · refine ⟨(fun g b h => by cases h), fun l w' hl hdp hJ hg ρ h1 h2 h3 h4 h5 => ?_⟩
      have HJ := hid hJ
      clear hJ
      have f18 : ρ (.tmp 18) = .bool m := h4 13 18 (by kernel_rfl) (by kernel_rfl)
      clear h4 h5 hg
      unfold OpY
      go_simp
      first | exact ⟨rfl, HJ.out.put 14 (by decide)⟩ | exact ⟨Or.inr rfl, HJ.out.put 14 (by decide)⟩
  case hdone =>
    intro W1 hJ
    have HF := hid (hJ.mid rfl)
    clear hJ
    have hlow1 : Below W.heap.size W W1 := HLOW.out.trans (HF.out.2.below (by simp) (HLOW.out.size))
    have HLOW1 := hid hlow1
    have hbe := HF.out.2.blk (by simp) HBE.out
    have hbc := HF.out.2.blk (by simp) HBC.out
    have HBE1 := hid hbe
    have HBC1 := hid hbc
    clear hlow1 hbe hbc HF HN HBE HBC HLOW HWB
    cases m with
    | false =>
      obtain rfl : mn = true := by simpa using hmn.symm
      clear hmn
      go_wp2_with fail
      go_ret
      exact ⟨by rw [HRES.out] <;> simp, HLOW1.out⟩
    | true =>
      obtain rfl : mn = false := by simpa using hmn.symm
      obtain ⟨⟨-, t6, -⟩, ⟨-, -, -, -, t2, -⟩, -⟩ := HIN.out rfl
      have jt0 : (0 : Int) ≤ (th : Int) := by omega
      have jt6 : (th : Int) < 6 := by omega
      have HTH := hid (show th < 6 by omega)
      have q0 := HBE1.out.cell 0 (v := .int .u8 kind) rfl
      have q1 := HBE1.out.cell 1 (v := .int .i64 (th : Int)) rfl
      have q4 := HBE1.out.cell 4 (v := .int .i64 v) rfl
      have c4 := HBC1.out.cell 4 (v := .int .i64 c.clock) rfl
      have cb := HBC1.out.cell (5 + th) (cdr_begun T V S c HTH.out)
      have cu := HBC1.out.cell (11 + th) (cdr_bumped T V S c HTH.out)
      clear hmn t6 t2
      by_cases k1 : kind = 1
      · subst k1
        go_wp2_with fail
        go_quiet (fail)
        go_wp2_with fail
        go_ret
        exact ⟨by rw [HRES.out] <;> simp, HLOW1.out.trans (ext_drewN (ext_refl _) _ |>.mono HLOW1.out.size)⟩
      by_cases k2 : kind = 2
      · subst k2
        go_wp2_with fail
        go_quiet (fail)
        go_wp2_with fail
        go_ret
        exact ⟨by rw [HRES.out] <;> simp, HLOW1.out.trans (ext_drewN (ext_refl _) _ |>.mono HLOW1.out.size)⟩
      by_cases k5 : kind = 5
      · subst k5
        go_wp2_with fail
        go_quiet (fail)
        go_wp2_with fail
        go_ret
        exact ⟨by rw [HRES.out] <;> simp, HLOW1.out.trans (ext_drewN (ext_refl _) _ |>.mono HLOW1.out.size)⟩
      by_cases k7 : kind = 7
      · subst k7
        by_cases hv : v = 0
        · subst hv
          go_wp2_with fail
          go_quiet (fail)
          go_wp2_with fail
          go_ret
          exact ⟨by rw [HRES.out] <;> simp, HLOW1.out.trans (ext_drewN (ext_refl _) _ |>.mono HLOW1.out.size)⟩
        · have g1 : (v == 0) = false := by simp [hv]
          have g2 : decide (v = 0) = false := by simp [hv]
          have HV := hid hv
          clear hv
          go_wp2_with fail
          go_quiet (fail)
          go_wp2_with fail
          go_ret
          exact ⟨by rw [HRES.out] <;> simp [HV.out] <;> rfl, HLOW1.out.trans (ext_drewN (ext_refl _) _ |>.mono HLOW1.out.size)⟩
      have g1 : (kind == 1) = false := by simp [k1]
      have g2 : (kind == 2) = false := by simp [k2]
      have g5 : (kind == 5) = false := by simp [k5]
      have g7 : (kind == 7) = false := by simp [k7]
      have f1 : decide (kind = 1) = false := by simp [k1]
      have f2 : decide (kind = 2) = false := by simp [k2]
      have f5 : decide (kind = 5) = false := by simp [k5]
      have f7 : decide (kind = 7) = false := by simp [k7]
      have HK := hid (And.intro k1 (And.intro k2 (And.intro k5 k7)))
      clear k1 k2 k5 k7
      go_wp2_with fail
      go_ret
      exact ⟨by rw [HRES.out] <;> simp [HK.out.1, HK.out.2.1, HK.out.2.2.1, HK.out.2.2.2], HLOW1.out⟩
end Go.Proofs.YtokkafiphchejaaDoor
