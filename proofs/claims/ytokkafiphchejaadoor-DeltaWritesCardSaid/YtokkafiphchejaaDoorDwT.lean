/-
  Walk: the document's Tells and Write (printed by gen_dw.py).
-/
import Derived.Test.YtokkafiphchejaaDoorDwB
import Derived.Test.YtokkafiphchejaaDoorDeG2
import Derived.Test.YtokkafiphchejaaDoorEvR3
namespace Go.Proofs.YtokkafiphchejaaDoor
set_option linter.unusedVariables false
set_option linter.unusedSimpArgs false
set_option linter.unusedVariables false
open Go Go.RowKit
set_option maxRecDepth 100000 in
set_option maxHeartbeats 4000000 in
theorem rtells_any (T V S : Int) (c : Cdr) (kind tx at_ v x why : Int) (th : Nat) (C : Nat) (W : World) (hok : EvOk ⟨kind, (th : Int), tx, at_, v, x, why⟩) (hC : Blk W C (cdrA T V S c) 90) (hKd : NamesR W) (hT : 1 ≤ T ∧ T ≤ 6) (hV : 1 ≤ V ∧ V ≤ 32) (hS : 1 ≤ S ∧ S ≤ 32) :
    Calls Tryd.prog 38 #[.pointer (some ⟨C, 0, none⟩), evA ⟨kind, (th : Int), tx, at_, v, x, why⟩] W fun e' W' => e' = .returned (.bool (tellsC T V S c ⟨kind, (th : Int), tx, at_, v, x, why⟩)) ∧ Below W.heap.size W W' := by
  obtain ⟨WB, hWB⟩ : ∃ WB, WB = W.alloc (.cells #[.int .u8 kind, .int .i64 (th : Int), .int .i64 tx, .int .i64 at_, .int .i64 v, .int .i64 x, .int .u8 why] 33) := ⟨_, rfl⟩
  have HLOW : Hid (Below W.heap.size W WB) := hid (by rw [hWB]; exact ext_alloc (ext_refl _) _)
  have HBE : Hid (Blk WB W.heap.size #[.int .u8 kind, .int .i64 (th : Int), .int .i64 tx, .int .i64 at_, .int .i64 v, .int .i64 x, .int .u8 why] 33) := hid (by rw [hWB]; exact Blk.new _ _ _)
  have HBC := hid (hC.below HLOW.out)
  obtain ⟨m, hm⟩ : ∃ m, m = mayE ⟨kind, (th : Int), tx, at_, v, x, why⟩ T V S := ⟨_, rfl⟩
  have HN := hid (fun W' (h : Below WB.heap.size WB W') => rmay_any ⟨kind, (th : Int), tx, at_, v, x, why⟩ T V S W' hok (hKd.below (ext_trans HLOW.out h)))
  rw [← hm] at HN
  obtain ⟨mn, hmn⟩ : ∃ mn, (!m) = mn := ⟨_, rfl⟩
  have ht0 : tellsC T V S c ⟨kind, (th : Int), tx, at_, v, x, why⟩ = (m && if kind = 1 then decide (c.clock ≤ v) else if kind = 2 then decide (v ≤ c.begun th) else if kind = 5 then decide (c.clock < v) else if kind = 7 then decide (v = 0 ∨ v = c.bumped th) else true) := by unfold tellsC; rw [← hm]
  obtain ⟨res, hres⟩ : ∃ res, res = tellsC T V S c ⟨kind, (th : Int), tx, at_, v, x, why⟩ := ⟨_, rfl⟩
  rw [ht0] at hres
  rw [ht0, ← hres]
  have HRES := hid hres
  clear ht0 hres
  have hin := fun (h : m = true) => may_sizes' (e := ⟨kind, (th : Int), tx, at_, v, x, why⟩) (T := T) (V := V) (S := S) (by rw [← hm]; exact h)
  dsimp only at hin
  dsimp only [evA] at HN ⊢
  have HIN := hid hin
  have HWB := hid hWB
  clear hC hKd hT hV hS hm hin hWB hok
  go_enter Tryd.func38, Tryd.ntmps38
  go_wp2_with fail
  rw [← HWB.out]
  apply wp_region_knownJ (fun qq => ([.agg #[.int .u8 kind, .int .i64 (th : Int), .int .i64 tx, .int .i64 at_, .int .i64 v, .int .i64 x, .int .u8 why], .pointer (some ⟨C, 0, none⟩), .pointer (some ⟨C, 0, none⟩), .pointer (some ⟨C, 0, none⟩), .int .i64 (T), .pointer (some ⟨C, 0, none⟩), .pointer (some ⟨C, 0, none⟩), .pointer (some ⟨C, 1, none⟩), .int .i64 (V), .pointer (some ⟨C, 0, none⟩), .pointer (some ⟨C, 0, none⟩), .pointer (some ⟨C, 2, none⟩), .int .i64 (S), .bool m, .bool mn] : List Value).getD qq undef) (LQ WB [] (fun (_ : Unit) _ => True) () 13)
  focus (simp [putAll, dstOf, Act.put, List.getD]; rfl)
  case hm => kernel_rfl
  case hd => kernel_rfl
  case hb => kernel_rfl
  case hng => kernel_rfl
  case hsz => kernel_rfl
  case hext => exact fun l l' w h H => H.ext (n := 15) (by decide) (fun i hi => h i hi)
  case h0 => exact LQ.start
  case hstep =>
    refine ⟨?_, ?_, ?_, ?_, ?_, ?_, ?_, ?_, ?_, ?_, ?_, ?_, ?_, ?_, ?_,  trivial⟩
    · refine ⟨(fun g b h => by cases h), fun l w' hl hdp hJ hg ρ h1 h2 h3 h4 h5 => ?_⟩
      have HJ := hid hJ
      clear hJ
      have f3 : ρ (.tmp 3) = .pointer (some ⟨W.heap.size, 0, none⟩) := h5 3 (by kernel_rfl)
      have hbe := HJ.out.turn.blk (by simp) HBE.out
      have e0 := hbe.cell 0 (v := .int .u8 (kind)) rfl
      have e1 := hbe.cell 1 (v := .int .i64 ((th : Int))) rfl
      have e2 := hbe.cell 2 (v := .int .i64 (tx)) rfl
      have e3 := hbe.cell 3 (v := .int .i64 (at_)) rfl
      have e4 := hbe.cell 4 (v := .int .i64 (v)) rfl
      have e5 := hbe.cell 5 (v := .int .i64 (x)) rfl
      have e6 := hbe.cell 6 (v := .int .u8 (why)) rfl
      clear hbe
      clear h4 h5 hg
      unfold OpY
      go_simp
      first | exact ⟨rfl, HJ.out.put 0 (by decide)⟩ | exact ⟨Or.inr rfl, HJ.out.put 0 (by decide)⟩
    · refine ⟨(fun g b h => by cases h), fun l w' hl hdp hJ hg ρ h1 h2 h3 h4 h5 => ?_⟩
      have HJ := hid hJ
      clear hJ
      have f0 : ρ (.tmp 0) = .pointer (some ⟨C, 0, none⟩) := h5 0 (by kernel_rfl)
      clear h4 h5 hg
      unfold OpY
      go_simp
      first | exact ⟨rfl, HJ.out.put 1 (by decide)⟩ | exact ⟨Or.inr rfl, HJ.out.put 1 (by decide)⟩
    · refine ⟨(fun g b h => by cases h), fun l w' hl hdp hJ hg ρ h1 h2 h3 h4 h5 => ?_⟩
      have HJ := hid hJ
      clear hJ
      have f6 : ρ (.tmp 6) = .pointer (some ⟨C, 0, none⟩) := h4 1 6 (by kernel_rfl) (by kernel_rfl)
      clear h4 h5 hg
      unfold OpY
      go_simp
      first | exact ⟨rfl, HJ.out.put 2 (by decide)⟩ | exact ⟨Or.inr rfl, HJ.out.put 2 (by decide)⟩
    · refine ⟨(fun g b h => by cases h), fun l w' hl hdp hJ hg ρ h1 h2 h3 h4 h5 => ?_⟩
      have HJ := hid hJ
      clear hJ
      have f7 : ρ (.tmp 7) = .pointer (some ⟨C, 0, none⟩) := h4 2 7 (by kernel_rfl) (by kernel_rfl)
      clear h4 h5 hg
      unfold OpY
      go_simp
      first | exact ⟨rfl, HJ.out.put 3 (by decide)⟩ | exact ⟨Or.inr rfl, HJ.out.put 3 (by decide)⟩
    · refine ⟨(fun g b h => by cases h), fun l w' hl hdp hJ hg ρ h1 h2 h3 h4 h5 => ?_⟩
      have HJ := hid hJ
      clear hJ
      have f8 : ρ (.tmp 8) = .pointer (some ⟨C, 0, none⟩) := h4 3 8 (by kernel_rfl) (by kernel_rfl)
      have c : w'.cell? ⟨C, 0, none⟩ = some (.int .i64 (T)) := (HJ.out.turn.blk (by simp) HBC.out).cell 0 rfl
      clear h4 h5 hg
      unfold OpY
      go_simp
      first | exact ⟨rfl, HJ.out.put 4 (by decide)⟩ | exact ⟨Or.inr rfl, HJ.out.put 4 (by decide)⟩
    · refine ⟨(fun g b h => by cases h), fun l w' hl hdp hJ hg ρ h1 h2 h3 h4 h5 => ?_⟩
      have HJ := hid hJ
      clear hJ
      have f0 : ρ (.tmp 0) = .pointer (some ⟨C, 0, none⟩) := h5 0 (by kernel_rfl)
      clear h4 h5 hg
      unfold OpY
      go_simp
      first | exact ⟨rfl, HJ.out.put 5 (by decide)⟩ | exact ⟨Or.inr rfl, HJ.out.put 5 (by decide)⟩
    · refine ⟨(fun g b h => by cases h), fun l w' hl hdp hJ hg ρ h1 h2 h3 h4 h5 => ?_⟩
      have HJ := hid hJ
      clear hJ
      have f10 : ρ (.tmp 10) = .pointer (some ⟨C, 0, none⟩) := h4 5 10 (by kernel_rfl) (by kernel_rfl)
      clear h4 h5 hg
      unfold OpY
      go_simp
      first | exact ⟨rfl, HJ.out.put 6 (by decide)⟩ | exact ⟨Or.inr rfl, HJ.out.put 6 (by decide)⟩
    · refine ⟨(fun g b h => by cases h), fun l w' hl hdp hJ hg ρ h1 h2 h3 h4 h5 => ?_⟩
      have HJ := hid hJ
      clear hJ
      have f11 : ρ (.tmp 11) = .pointer (some ⟨C, 0, none⟩) := h4 6 11 (by kernel_rfl) (by kernel_rfl)
      clear h4 h5 hg
      unfold OpY
      go_simp
      first | exact ⟨rfl, HJ.out.put 7 (by decide)⟩ | exact ⟨Or.inr rfl, HJ.out.put 7 (by decide)⟩
    · refine ⟨(fun g b h => by cases h), fun l w' hl hdp hJ hg ρ h1 h2 h3 h4 h5 => ?_⟩
      have HJ := hid hJ
      clear hJ
      have f12 : ρ (.tmp 12) = .pointer (some ⟨C, 1, none⟩) := h4 7 12 (by kernel_rfl) (by kernel_rfl)
      have c : w'.cell? ⟨C, 1, none⟩ = some (.int .i64 (V)) := (HJ.out.turn.blk (by simp) HBC.out).cell 1 rfl
      clear h4 h5 hg
      unfold OpY
      go_simp
      first | exact ⟨rfl, HJ.out.put 8 (by decide)⟩ | exact ⟨Or.inr rfl, HJ.out.put 8 (by decide)⟩
    · refine ⟨(fun g b h => by cases h), fun l w' hl hdp hJ hg ρ h1 h2 h3 h4 h5 => ?_⟩
      have HJ := hid hJ
      clear hJ
      have f0 : ρ (.tmp 0) = .pointer (some ⟨C, 0, none⟩) := h5 0 (by kernel_rfl)
      clear h4 h5 hg
      unfold OpY
      go_simp
      first | exact ⟨rfl, HJ.out.put 9 (by decide)⟩ | exact ⟨Or.inr rfl, HJ.out.put 9 (by decide)⟩
    · refine ⟨(fun g b h => by cases h), fun l w' hl hdp hJ hg ρ h1 h2 h3 h4 h5 => ?_⟩
      have HJ := hid hJ
      clear hJ
      have f14 : ρ (.tmp 14) = .pointer (some ⟨C, 0, none⟩) := h4 9 14 (by kernel_rfl) (by kernel_rfl)
      clear h4 h5 hg
      unfold OpY
      go_simp
      first | exact ⟨rfl, HJ.out.put 10 (by decide)⟩ | exact ⟨Or.inr rfl, HJ.out.put 10 (by decide)⟩
    · refine ⟨(fun g b h => by cases h), fun l w' hl hdp hJ hg ρ h1 h2 h3 h4 h5 => ?_⟩
      have HJ := hid hJ
      clear hJ
      have f15 : ρ (.tmp 15) = .pointer (some ⟨C, 0, none⟩) := h4 10 15 (by kernel_rfl) (by kernel_rfl)
      clear h4 h5 hg
      unfold OpY
      go_simp
      first | exact ⟨rfl, HJ.out.put 11 (by decide)⟩ | exact ⟨Or.inr rfl, HJ.out.put 11 (by decide)⟩
    · refine ⟨(fun g b h => by cases h), fun l w' hl hdp hJ hg ρ h1 h2 h3 h4 h5 => ?_⟩
      have HJ := hid hJ
      clear hJ
      have f16 : ρ (.tmp 16) = .pointer (some ⟨C, 2, none⟩) := h4 11 16 (by kernel_rfl) (by kernel_rfl)
      have c : w'.cell? ⟨C, 2, none⟩ = some (.int .i64 (S)) := (HJ.out.turn.blk (by simp) HBC.out).cell 2 rfl
      clear h4 h5 hg
      unfold OpY
      go_simp
      first | exact ⟨rfl, HJ.out.put 12 (by decide)⟩ | exact ⟨Or.inr rfl, HJ.out.put 12 (by decide)⟩
    · refine ⟨(fun g b h => by cases h), fun l w' hl hdp hJ hg ρ h1 h2 h3 h4 h5 => ?_⟩
      have HJ := hid hJ
      clear hJ
      have f5 : ρ (.tmp 5) = .agg #[.int .u8 kind, .int .i64 (th : Int), .int .i64 tx, .int .i64 at_, .int .i64 v, .int .i64 x, .int .u8 why] := h4 0 5 (by kernel_rfl) (by kernel_rfl)
      have f9 : ρ (.tmp 9) = .int .i64 (T) := h4 4 9 (by kernel_rfl) (by kernel_rfl)
      have f13 : ρ (.tmp 13) = .int .i64 (V) := h4 8 13 (by kernel_rfl) (by kernel_rfl)
      have f17 : ρ (.tmp 17) = .int .i64 (S) := h4 12 17 (by kernel_rfl) (by kernel_rfl)
      clear h4 h5 hg
      unfold OpY
      go_simp
      unfold OpR
      have h0 := HJ.out.pre hl
      subst h0
      refine (HN.out _ (ext_drew (ext_refl _))).mono ?_
      rintro e' w'' ⟨rfl, hb'⟩
      first | exact ⟨_, rfl, rfl, LQ.call trivial (Turn.of_below hb')⟩ | exact ⟨_, rfl, Or.inr rfl, LQ.call trivial (Turn.of_below hb')⟩
    · refine ⟨(fun g b h => by cases h), fun l w' hl hdp hJ hg ρ h1 h2 h3 h4 h5 => ?_⟩
      have HJ := hid hJ
      clear hJ
      have f18 : ρ (.tmp 18) = .bool m := h4 13 18 (by kernel_rfl) (by kernel_rfl)
      clear h4 h5 hg
      unfold OpY
      go_simp
      first | exact ⟨rfl, HJ.out.put 14 (by decide)⟩ | exact ⟨Or.inr rfl, HJ.out.put 14 (by decide)⟩
  case hdone =>
    intro W1 hJ
    have HF := hid (hJ.mid rfl)
    clear hJ
    have hlow1 : Below W.heap.size W W1 := HLOW.out.trans (HF.out.2.below (by simp) (HLOW.out.size))
    have HLOW1 := hid hlow1
    have hbe := HF.out.2.blk (by simp) HBE.out
    have hbc := HF.out.2.blk (by simp) HBC.out
    have HBE1 := hid hbe
    have HBC1 := hid hbc
    clear hlow1 hbe hbc HF HN HBE HBC HLOW HWB
    cases m with
    | false =>
      obtain rfl : mn = true := by simpa using hmn.symm
      clear hmn
      go_wp2_with fail
      go_ret
      exact ⟨by rw [HRES.out] <;> simp, HLOW1.out⟩
    | true =>
      obtain rfl : mn = false := by simpa using hmn.symm
      obtain ⟨⟨-, t6, -⟩, ⟨-, -, -, -, t2, -⟩, -⟩ := HIN.out rfl
      have jt0 : (0 : Int) ≤ (th : Int) := by omega
      have jt6 : (th : Int) < 6 := by omega
      have HTH := hid (show th < 6 by omega)
      have q0 := HBE1.out.cell 0 (v := .int .u8 kind) rfl
      have q1 := HBE1.out.cell 1 (v := .int .i64 (th : Int)) rfl
      have q4 := HBE1.out.cell 4 (v := .int .i64 v) rfl
      have c4 := HBC1.out.cell 4 (v := .int .i64 c.clock) rfl
      have cb := HBC1.out.cell (5 + th) (cdr_begun T V S c HTH.out)
      have cu := HBC1.out.cell (11 + th) (cdr_bumped T V S c HTH.out)
      clear hmn t6 t2
      by_cases k1 : kind = 1
      · subst k1
        go_wp2_with fail
        go_quiet (fail)
        go_wp2_with fail
        go_ret
        exact ⟨by rw [HRES.out] <;> simp, HLOW1.out.trans (ext_drewN (ext_refl _) _ |>.mono HLOW1.out.size)⟩
      by_cases k2 : kind = 2
      · subst k2
        go_wp2_with fail
        go_quiet (fail)
        go_wp2_with fail
        go_ret
        exact ⟨by rw [HRES.out] <;> simp, HLOW1.out.trans (ext_drewN (ext_refl _) _ |>.mono HLOW1.out.size)⟩
      by_cases k5 : kind = 5
      · subst k5
        go_wp2_with fail
        go_quiet (fail)
        go_wp2_with fail
        go_ret
        exact ⟨by rw [HRES.out] <;> simp, HLOW1.out.trans (ext_drewN (ext_refl _) _ |>.mono HLOW1.out.size)⟩
      by_cases k7 : kind = 7
      · subst k7
        by_cases hv : v = 0
        · subst hv
          go_wp2_with fail
          go_quiet (fail)
          go_wp2_with fail
          go_ret
          exact ⟨by rw [HRES.out] <;> simp, HLOW1.out.trans (ext_drewN (ext_refl _) _ |>.mono HLOW1.out.size)⟩
        · have g1 : (v == 0) = false := by simp [hv]
          have g2 : decide (v = 0) = false := by simp [hv]
          have HV := hid hv
          clear hv
          go_wp2_with fail
          go_quiet (fail)
          go_wp2_with fail
          go_ret
          exact ⟨by rw [HRES.out] <;> simp [HV.out] <;> rfl, HLOW1.out.trans (ext_drewN (ext_refl _) _ |>.mono HLOW1.out.size)⟩
      have g1 : (kind == 1) = false := by simp [k1]
      have g2 : (kind == 2) = false := by simp [k2]
      have g5 : (kind == 5) = false := by simp [k5]
      have g7 : (kind == 7) = false := by simp [k7]
      have f1 : decide (kind = 1) = false := by simp [k1]
      have f2 : decide (kind = 2) = false := by simp [k2]
      have f5 : decide (kind = 5) = false := by simp [k5]
      have f7 : decide (kind = 7) = false := by simp [k7]
      have HK := hid (And.intro k1 (And.intro k2 (And.intro k5 k7)))
      clear k1 k2 k5 k7
      go_wp2_with fail
      go_ret
      exact ⟨by rw [HRES.out] <;> simp [HK.out.1, HK.out.2.1, HK.out.2.2.1, HK.out.2.2.2], HLOW1.out⟩
set_option maxRecDepth 100000 in
set_option maxHeartbeats 4000000 in
theorem rtells_no (T V S : Int) (c : Cdr) (kind th tx at_ v x why : Int) (C : Nat) (W : World) (hok : EvOk ⟨kind, th, tx, at_, v, x, why⟩) (hC : Blk W C (cdrA T V S c) 90) (hKd : NamesR W) (hm0 : mayE ⟨kind, th, tx, at_, v, x, why⟩ T V S = false) :
    Calls Tryd.prog 38 #[.pointer (some ⟨C, 0, none⟩), evA ⟨kind, th, tx, at_, v, x, why⟩] W fun e' W' => e' = .returned (.bool false) ∧ Below W.heap.size W W' := by
  obtain ⟨WB, hWB⟩ : ∃ WB, WB = W.alloc (.cells #[.int .u8 kind, .int .i64 th, .int .i64 tx, .int .i64 at_, .int .i64 v, .int .i64 x, .int .u8 why] 33) := ⟨_, rfl⟩
  have HLOW : Hid (Below W.heap.size W WB) := hid (by rw [hWB]; exact ext_alloc (ext_refl _) _)
  have HBE : Hid (Blk WB W.heap.size #[.int .u8 kind, .int .i64 th, .int .i64 tx, .int .i64 at_, .int .i64 v, .int .i64 x, .int .u8 why] 33) := hid (by rw [hWB]; exact Blk.new _ _ _)
  have HBC := hid (hC.below HLOW.out)
  obtain ⟨m, hm⟩ : ∃ m, m = mayE ⟨kind, th, tx, at_, v, x, why⟩ T V S := ⟨_, rfl⟩
  have HN := hid (fun W' (h : Below WB.heap.size WB W') => rmay_any ⟨kind, th, tx, at_, v, x, why⟩ T V S W' hok (hKd.below (ext_trans HLOW.out h)))
  rw [← hm] at HN hm0
  have HM0 := hid hm0
  obtain ⟨mn, hmn⟩ : ∃ mn, (!m) = mn := ⟨_, rfl⟩
  dsimp only [evA] at HN ⊢
  have HWB := hid hWB
  clear hC hKd hm hm0 hWB hok
  go_enter Tryd.func38, Tryd.ntmps38
  go_wp2_with fail
  rw [← HWB.out]
  apply wp_region_knownJ (fun qq => ([.agg #[.int .u8 kind, .int .i64 th, .int .i64 tx, .int .i64 at_, .int .i64 v, .int .i64 x, .int .u8 why], .pointer (some ⟨C, 0, none⟩), .pointer (some ⟨C, 0, none⟩), .pointer (some ⟨C, 0, none⟩), .int .i64 (T), .pointer (some ⟨C, 0, none⟩), .pointer (some ⟨C, 0, none⟩), .pointer (some ⟨C, 1, none⟩), .int .i64 (V), .pointer (some ⟨C, 0, none⟩), .pointer (some ⟨C, 0, none⟩), .pointer (some ⟨C, 2, none⟩), .int .i64 (S), .bool m, .bool mn] : List Value).getD qq undef) (LQ WB [] (fun (_ : Unit) _ => True) () 13)
  focus (simp [putAll, dstOf, Act.put, List.getD]; rfl)
  case hm => kernel_rfl
  case hd => kernel_rfl
  case hb => kernel_rfl
  case hng => kernel_rfl
  case hsz => kernel_rfl
  case hext => exact fun l l' w h H => H.ext (n := 15) (by decide) (fun i hi => h i hi)
  case h0 => exact LQ.start
  case hstep =>
    refine ⟨?_, ?_, ?_, ?_, ?_, ?_, ?_, ?_, ?_, ?_, ?_, ?_, ?_, ?_, ?_,  trivial⟩
    · refine ⟨(fun g b h => by cases h), fun l w' hl hdp hJ hg ρ h1 h2 h3 h4 h5 => ?_⟩
      have HJ := hid hJ
      clear hJ
      have f3 : ρ (.tmp 3) = .pointer (some ⟨W.heap.size, 0, none⟩) := h5 3 (by kernel_rfl)
      have hbe := HJ.out.turn.blk (by simp) HBE.out
      have e0 := hbe.cell 0 (v := .int .u8 (kind)) rfl
      have e1 := hbe.cell 1 (v := .int .i64 (th)) rfl
      have e2 := hbe.cell 2 (v := .int .i64 (tx)) rfl
      have e3 := hbe.cell 3 (v := .int .i64 (at_)) rfl
      have e4 := hbe.cell 4 (v := .int .i64 (v)) rfl
      have e5 := hbe.cell 5 (v := .int .i64 (x)) rfl
      have e6 := hbe.cell 6 (v := .int .u8 (why)) rfl
      clear hbe
      clear h4 h5 hg
      unfold OpY
      go_simp
      first | exact ⟨rfl, HJ.out.put 0 (by decide)⟩ | exact ⟨Or.inr rfl, HJ.out.put 0 (by decide)⟩
    · refine ⟨(fun g b h => by cases h), fun l w' hl hdp hJ hg ρ h1 h2 h3 h4 h5 => ?_⟩
      have HJ := hid hJ
      clear hJ
      have f0 : ρ (.tmp 0) = .pointer (some ⟨C, 0, none⟩) := h5 0 (by kernel_rfl)
      clear h4 h5 hg
      unfold OpY
      go_simp
      first | exact ⟨rfl, HJ.out.put 1 (by decide)⟩ | exact ⟨Or.inr rfl, HJ.out.put 1 (by decide)⟩
    · refine ⟨(fun g b h => by cases h), fun l w' hl hdp hJ hg ρ h1 h2 h3 h4 h5 => ?_⟩
      have HJ := hid hJ
      clear hJ
      have f6 : ρ (.tmp 6) = .pointer (some ⟨C, 0, none⟩) := h4 1 6 (by kernel_rfl) (by kernel_rfl)
      clear h4 h5 hg
      unfold OpY
      go_simp
      first | exact ⟨rfl, HJ.out.put 2 (by decide)⟩ | exact ⟨Or.inr rfl, HJ.out.put 2 (by decide)⟩
    · refine ⟨(fun g b h => by cases h), fun l w' hl hdp hJ hg ρ h1 h2 h3 h4 h5 => ?_⟩
      have HJ := hid hJ
      clear hJ
      have f7 : ρ (.tmp 7) = .pointer (some ⟨C, 0, none⟩) := h4 2 7 (by kernel_rfl) (by kernel_rfl)
      clear h4 h5 hg
      unfold OpY
      go_simp
      first | exact ⟨rfl, HJ.out.put 3 (by decide)⟩ | exact ⟨Or.inr rfl, HJ.out.put 3 (by decide)⟩
    · refine ⟨(fun g b h => by cases h), fun l w' hl hdp hJ hg ρ h1 h2 h3 h4 h5 => ?_⟩
      have HJ := hid hJ
      clear hJ
      have f8 : ρ (.tmp 8) = .pointer (some ⟨C, 0, none⟩) := h4 3 8 (by kernel_rfl) (by kernel_rfl)
      have c : w'.cell? ⟨C, 0, none⟩ = some (.int .i64 (T)) := (HJ.out.turn.blk (by simp) HBC.out).cell 0 rfl
      clear h4 h5 hg
      unfold OpY
      go_simp
      first | exact ⟨rfl, HJ.out.put 4 (by decide)⟩ | exact ⟨Or.inr rfl, HJ.out.put 4 (by decide)⟩
    · refine ⟨(fun g b h => by cases h), fun l w' hl hdp hJ hg ρ h1 h2 h3 h4 h5 => ?_⟩
      have HJ := hid hJ
      clear hJ
      have f0 : ρ (.tmp 0) = .pointer (some ⟨C, 0, none⟩) := h5 0 (by kernel_rfl)
      clear h4 h5 hg
      unfold OpY
      go_simp
      first | exact ⟨rfl, HJ.out.put 5 (by decide)⟩ | exact ⟨Or.inr rfl, HJ.out.put 5 (by decide)⟩
    · refine ⟨(fun g b h => by cases h), fun l w' hl hdp hJ hg ρ h1 h2 h3 h4 h5 => ?_⟩
      have HJ := hid hJ
      clear hJ
      have f10 : ρ (.tmp 10) = .pointer (some ⟨C, 0, none⟩) := h4 5 10 (by kernel_rfl) (by kernel_rfl)
      clear h4 h5 hg
      unfold OpY
      go_simp
      first | exact ⟨rfl, HJ.out.put 6 (by decide)⟩ | exact ⟨Or.inr rfl, HJ.out.put 6 (by decide)⟩
    · refine ⟨(fun g b h => by cases h), fun l w' hl hdp hJ hg ρ h1 h2 h3 h4 h5 => ?_⟩
      have HJ := hid hJ
      clear hJ
      have f11 : ρ (.tmp 11) = .pointer (some ⟨C, 0, none⟩) := h4 6 11 (by kernel_rfl) (by kernel_rfl)
      clear h4 h5 hg
      unfold OpY
      go_simp
      first | exact ⟨rfl, HJ.out.put 7 (by decide)⟩ | exact ⟨Or.inr rfl, HJ.out.put 7 (by decide)⟩
    · refine ⟨(fun g b h => by cases h), fun l w' hl hdp hJ hg ρ h1 h2 h3 h4 h5 => ?_⟩
      have HJ := hid hJ
      clear hJ
      have f12 : ρ (.tmp 12) = .pointer (some ⟨C, 1, none⟩) := h4 7 12 (by kernel_rfl) (by kernel_rfl)
      have c : w'.cell? ⟨C, 1, none⟩ = some (.int .i64 (V)) := (HJ.out.turn.blk (by simp) HBC.out).cell 1 rfl
      clear h4 h5 hg
      unfold OpY
      go_simp
      first | exact ⟨rfl, HJ.out.put 8 (by decide)⟩ | exact ⟨Or.inr rfl, HJ.out.put 8 (by decide)⟩
    · refine ⟨(fun g b h => by cases h), fun l w' hl hdp hJ hg ρ h1 h2 h3 h4 h5 => ?_⟩
      have HJ := hid hJ
      clear hJ
      have f0 : ρ (.tmp 0) = .pointer (some ⟨C, 0, none⟩) := h5 0 (by kernel_rfl)
      clear h4 h5 hg
      unfold OpY
      go_simp
      first | exact ⟨rfl, HJ.out.put 9 (by decide)⟩ | exact ⟨Or.inr rfl, HJ.out.put 9 (by decide)⟩
    · refine ⟨(fun g b h => by cases h), fun l w' hl hdp hJ hg ρ h1 h2 h3 h4 h5 => ?_⟩
      have HJ := hid hJ
      clear hJ
      have f14 : ρ (.tmp 14) = .pointer (some ⟨C, 0, none⟩) := h4 9 14 (by kernel_rfl) (by kernel_rfl)
      clear h4 h5 hg
      unfold OpY
      go_simp
      first | exact ⟨rfl, HJ.out.put 10 (by decide)⟩ | exact ⟨Or.inr rfl, HJ.out.put 10 (by decide)⟩
    · refine ⟨(fun g b h => by cases h), fun l w' hl hdp hJ hg ρ h1 h2 h3 h4 h5 => ?_⟩
      have HJ := hid hJ
      clear hJ
      have f15 : ρ (.tmp 15) = .pointer (some ⟨C, 0, none⟩) := h4 10 15 (by kernel_rfl) (by kernel_rfl)
      clear h4 h5 hg
      unfold OpY
      go_simp
      first | exact ⟨rfl, HJ.out.put 11 (by decide)⟩ | exact ⟨Or.inr rfl, HJ.out.put 11 (by decide)⟩
    · refine ⟨(fun g b h => by cases h), fun l w' hl hdp hJ hg ρ h1 h2 h3 h4 h5 => ?_⟩
      have HJ := hid hJ
      clear hJ
      have f16 : ρ (.tmp 16) = .pointer (some ⟨C, 2, none⟩) := h4 11 16 (by kernel_rfl) (by kernel_rfl)
      have c : w'.cell? ⟨C, 2, none⟩ = some (.int .i64 (S)) := (HJ.out.turn.blk (by simp) HBC.out).cell 2 rfl
      clear h4 h5 hg
      unfold OpY
      go_simp
      first | exact ⟨rfl, HJ.out.put 12 (by decide)⟩ | exact ⟨Or.inr rfl, HJ.out.put 12 (by decide)⟩
    · refine ⟨(fun g b h => by cases h), fun l w' hl hdp hJ hg ρ h1 h2 h3 h4 h5 => ?_⟩
      have HJ := hid hJ
      clear hJ
      have f5 : ρ (.tmp 5) = .agg #[.int .u8 kind, .int .i64 th, .int .i64 tx, .int .i64 at_, .int .i64 v, .int .i64 x, .int .u8 why] := h4 0 5 (by kernel_rfl) (by kernel_rfl)
      have f9 : ρ (.tmp 9) = .int .i64 (T) := h4 4 9 (by kernel_rfl) (by kernel_rfl)
      have f13 : ρ (.tmp 13) = .int .i64 (V) := h4 8 13 (by kernel_rfl) (by kernel_rfl)
      have f17 : ρ (.tmp 17) = .int .i64 (S) := h4 12 17 (by kernel_rfl) (by kernel_rfl)
      clear h4 h5 hg
      unfold OpY
      go_simp
      unfold OpR
      have h0 := HJ.out.pre hl
      subst h0
      refine (HN.out _ (ext_drew (ext_refl _))).mono ?_
      rintro e' w'' ⟨rfl, hb'⟩
      first | exact ⟨_, rfl, rfl, LQ.call trivial (Turn.of_below hb')⟩ | exact ⟨_, rfl, Or.inr rfl, LQ.call trivial (Turn.of_below hb')⟩
    · refine ⟨(fun g b h => by cases h), fun l w' hl hdp hJ hg ρ h1 h2 h3 h4 h5 => ?_⟩
      have HJ := hid hJ
      clear hJ
      have f18 : ρ (.tmp 18) = .bool m := h4 13 18 (by kernel_rfl) (by kernel_rfl)
      clear h4 h5 hg
      unfold OpY
      go_simp
      first | exact ⟨rfl, HJ.out.put 14 (by decide)⟩ | exact ⟨Or.inr rfl, HJ.out.put 14 (by decide)⟩
  case hdone =>
    intro W1 hJ
    have HF := hid (hJ.mid rfl)
    clear hJ
    have hlow1 : Below W.heap.size W W1 := HLOW.out.trans (HF.out.2.below (by simp) (HLOW.out.size))
    have HLOW1 := hid hlow1
    clear hlow1 HF HN HBE HBC HLOW HWB
    have hm1 := HM0.out
    subst hm1
    obtain rfl : mn = true := by simpa using hmn.symm
    clear hmn
    go_wp2_with fail
    go_ret
    exact ⟨rfl, HLOW1.out⟩
theorem rtells_all (T V S : Int) (c : Cdr) (e : Ev) (C : Nat) (W : World) (hok : EvOk e) (hC : Blk W C (cdrA T V S c) 90) (hKd : NamesR W) (hT : 1 ≤ T ∧ T ≤ 6) (hV : 1 ≤ V ∧ V ≤ 32) (hS : 1 ≤ S ∧ S ≤ 32) :
    Calls Tryd.prog 38 #[.pointer (some ⟨C, 0, none⟩), evA e] W fun e' W' => e' = .returned (.bool (tellsC T V S c e)) ∧ Below W.heap.size W W' := by
  cases hm : mayE e T V S with
  | false =>
    have : tellsC T V S c e = false := by unfold tellsC; rw [hm]; rfl
    rw [this]
    exact rtells_no T V S c _ _ _ _ _ _ _ C W hok hC hKd hm
  | true =>
    obtain ⟨hs, ⟨k1, k2, hw, t1, t2, -⟩, -⟩ := may_sizes' hm
    obtain ⟨kind, th, tx, at_, v, x, why⟩ := e
    dsimp only at *
    obtain ⟨n, rfl⟩ := Int.eq_ofNat_of_zero_le t1
    exact rtells_any T V S c kind tx at_ v x why n C W hok hC hKd hT hV hS
set_option maxRecDepth 100000 in
set_option maxHeartbeats 4000000 in
theorem rwrite_no (T V S : Int) (c : Cdr) (e : Ev) (C b : Nat) (W : World) (hok : EvOk e) (hC : Blk W C (cdrA T V S c) 90) (hN : NamesR W) (hT : 1 ≤ T ∧ T ≤ 6) (hV : 1 ≤ V ∧ V ≤ 32) (hS : 1 ≤ S ∧ S ≤ 32) (ht : tellsC T V S c e = false) :
    Calls Tryd.prog 18 #[.pointer (some ⟨C, 0, none⟩), .pointer (some ⟨b, 0, none⟩), evA e] W fun e' W' => e' = .returned (.int .i64 4) ∧ Below W.heap.size W W' := by
  have HTELL := hid (fun W' (h : Below W.heap.size W W') => rtells_all T V S c e C W' hok (hC.below h) (hN.below h) hT hV hS)
  rw [ht] at HTELL
  obtain ⟨kind, th, tx, at_, v, x, why⟩ := e
  have HLOW : Hid (Below W.heap.size W (W.alloc (.cells #[.int .u8 kind, .int .i64 th, .int .i64 tx, .int .i64 at_, .int .i64 v, .int .i64 x, .int .u8 why] 33))) := hid (ext_alloc (ext_refl _) _)
  dsimp only [evA] at HTELL ⊢
  clear ht hC hok hT hV hS
  obtain ⟨Q, hQ⟩ : ∃ Q : Ending → World → Prop, Q = fun e' W' => e' = .returned (.int .i64 4) ∧ Below W.heap.size W W' := ⟨_, rfl⟩
  rw [← hQ]
  have HQ := hid hQ
  clear hQ
  go_enter Tryd.func18, Tryd.ntmps18
  go_wp2_with fail
  refine (HTELL.out _ HLOW.out).mono ?_
  rintro e' W2 ⟨rfl, hb2⟩
  go_wp2_with fail
  rw [HQ.out]
  exact ⟨rfl, ext_trans HLOW.out hb2⟩
theorem bytesC_lt (T : Int) (c : Cdr) (e : Ev) : ∀ q ∈ bytesC T c e, q < 256 := by
  intro q hq
  unfold bytesC at hq
  obtain ⟨n, -, hn⟩ := List.mem_flatMap.1 hq
  exact putF_byte 10 n q hn
set_option maxRecDepth 100000 in
set_option maxHeartbeats 4000000 in
theorem rwrite_yes (T V S : Int) (c : Cdr) (kind tx at_ v x why : Int) (th : Nat) (C b : Nat) (most : Int) (bs : List Nat) (W : World) (hok : EvOk ⟨kind, (th : Int), tx, at_, v, x, why⟩) (hC : Blk W C (cdrA T V S c) 90) (hN : NamesR W) (hT : 1 ≤ T ∧ T ≤ 6) (hV : 1 ≤ V ∧ V ≤ 32) (hS : 1 ≤ S ∧ S ≤ 32) (hc : OkC T c) (ht : tellsC T V S c ⟨kind, (th : Int), tx, at_, v, x, why⟩ = true) (hw : RWrt W b most bs) (hb8 : ∀ q ∈ bs, q < 256) (hCb : C ≠ b) (hl : bs.length ≤ 16777216) (hfit : ((bs.length + (bytesC T c ⟨kind, (th : Int), tx, at_, v, x, why⟩).length : Nat) : Int) ≤ most) :
    Calls Tryd.prog 18 #[.pointer (some ⟨C, 0, none⟩), .pointer (some ⟨b, 0, none⟩), evA ⟨kind, (th : Int), tx, at_, v, x, why⟩] W fun e' W' => e' = .returned (.int .i64 0) ∧ Blk W' C (cdrA T V S (knowsC c ⟨kind, (th : Int), tx, at_, v, x, why⟩)) 90 ∧ RWrt W' b most (bs ++ bytesC T c ⟨kind, (th : Int), tx, at_, v, x, why⟩) ∧ Turn [C, b] W W' := by
  have HTELL := hid (fun W' (h : Below W.heap.size W W') => rtells_any T V S c kind tx at_ v x why th C W' hok (hC.below h) (hN.below h) hT hV hS)
  rw [ht] at HTELL
  have HBY := hid (fun W' (h : Below W.heap.size W W') => rbytes_any T V S c kind tx at_ v x why th C W' (hC.below h) hc ht hok.2.2.2.2.2.1)
  obtain ⟨W1, hW1⟩ : ∃ W1, W1 = W.alloc (.cells #[.int .u8 kind, .int .i64 (th : Int), .int .i64 tx, .int .i64 at_, .int .i64 v, .int .i64 x, .int .u8 why] 33) := ⟨_, rfl⟩
  have HB1 : Hid (Below W.heap.size W W1) := hid (by rw [hW1]; exact ext_alloc (ext_refl _) _)
  have HBE : Hid (Blk W1 W.heap.size #[.int .u8 kind, .int .i64 (th : Int), .int .i64 tx, .int .i64 at_, .int .i64 v, .int .i64 x, .int .u8 why] 33) := hid (by rw [hW1]; exact Blk.new _ _ _)
  obtain ⟨Z, hZ⟩ : ∃ Z, Z = bstr (bytesC T c ⟨kind, (th : Int), tx, at_, v, x, why⟩) := ⟨_, rfl⟩
  have hbl := (bytes_len (V := V) (S := S) hc ht).2
  have hzb : byt Z = bytesC T c ⟨kind, (th : Int), tx, at_, v, x, why⟩ := by rw [hZ]; exact byt_bstr (bytesC_lt T c _)
  have hzl : Z.size = (bytesC T c ⟨kind, (th : Int), tx, at_, v, x, why⟩).length := by rw [← byt_len, hzb]
  rw [← hZ] at HBY
  have HCC := hid hC
  have HW := hid hw
  have HAT := hid (w_ats ht)
  have HZB := hid hzb
  have HNE := hid (show C < W.heap.size ∧ b < W.heap.size ∧ C ≠ b from ⟨hC.lt, Blk.lt hw, hCb⟩)
  dsimp only [evA] at HTELL HBY ⊢
  have HRAW := hid (fun W' (h : Below W.heap.size W W') => rraw_yes b most bs Z W' (Blk.below h hw) hb8 hl (by omega) (by rw [hzl]; exact hfit))
  have HW1 := hid hW1
  obtain ⟨Q, hQ⟩ : ∃ Q : Ending → World → Prop, Q = fun e' W' => e' = .returned (.int .i64 0) ∧ Blk W' C (cdrA T V S (knowsC c ⟨kind, (th : Int), tx, at_, v, x, why⟩)) 90 ∧ RWrt W' b most (bs ++ bytesC T c ⟨kind, (th : Int), tx, at_, v, x, why⟩) ∧ Turn [C, b] W W' := ⟨_, rfl⟩
  rw [← hQ]
  have HQ := hid hQ
  clear hQ hW1 hZ hbl hzb hzl ht hC hok hT hV hS hc hw hb8 hCb hl hfit hN
  go_enter Tryd.func18, Tryd.ntmps18
  go_wp2_with fail
  rw [← HW1.out]
  refine (HTELL.out _ HB1.out).mono ?_
  rintro e' W2 ⟨rfl, hb2⟩
  have HB2 := hid (ext_trans HB1.out hb2)
  have hbe2 := HBE.out.below hb2
  have e0 := hbe2.cell 0 (v := .int .u8 kind) rfl
  have e1 := hbe2.cell 1 (v := .int .i64 (th : Int)) rfl
  have e2 := hbe2.cell 2 (v := .int .i64 tx) rfl
  have e3 := hbe2.cell 3 (v := .int .i64 at_) rfl
  have e4 := hbe2.cell 4 (v := .int .i64 v) rfl
  have e5 := hbe2.cell 5 (v := .int .i64 x) rfl
  have e6 := hbe2.cell 6 (v := .int .u8 why) rfl
  have HBE2 := hid hbe2
  clear hb2 hbe2 HTELL HB1 HBE HW1
  go_wp2_with fail
  refine (HBY.out _ HB2.out).mono ?_
  rintro e' W3 ⟨rfl, hb3⟩
  have HBE3 := hid (HBE2.out.below hb3)
  have HB3 := hid (ext_trans HB2.out hb3)
  clear hb3 HBY HB2 HBE2 e0 e1 e2 e3 e4 e5 e6
  go_wp2_with fail
  refine (HRAW.out _ HB3.out).mono ?_
  rintro e' W4 ⟨rfl, hw4, hT4⟩
  have hne := HNE.out
  have hbe4 := hT4.blk (k := W.heap.size) (by simp only [List.mem_cons, List.not_mem_nil, or_false]; omega) HBE3.out
  have hC4 := hT4.blk (k := C) (by simp only [List.mem_cons, List.not_mem_nil, or_false]; omega) (HCC.out.below HB3.out)
  have e0 := hbe4.cell 0 (v := .int .u8 kind) rfl
  have e1 := hbe4.cell 1 (v := .int .i64 (th : Int)) rfl
  have e2 := hbe4.cell 2 (v := .int .i64 tx) rfl
  have e3 := hbe4.cell 3 (v := .int .i64 at_) rfl
  have e4 := hbe4.cell 4 (v := .int .i64 v) rfl
  have e5 := hbe4.cell 5 (v := .int .i64 x) rfl
  have e6 := hbe4.cell 6 (v := .int .u8 why) rfl
  have HKN := hid (qknows_any T V S c kind tx at_ v x why th at_.toNat C W4 hC4 HAT.out.1 HAT.out.2.1 HAT.out.2.2)
  dsimp only [evA] at HKN
  have HW4 := hid hw4
  have HT4 := hid hT4
  clear hw4 hT4 hne hbe4 hC4 HBE3 HRAW
  go_wp2_with fail
  refine HKN.out.mono ?_
  rintro e' W5 ⟨rfl, hC5, hT5⟩
  go_wp2_with fail
  rw [HQ.out]
  have hne := HNE.out
  refine ⟨rfl, hC5, ?_, ((Turn.of_below HB3.out).trans (HT4.out.mono (by simp))).trans (hT5.mono (by simp))⟩
  have h := HW4.out
  rw [HZB.out] at h
  exact Turn.blk hT5 (by simp only [List.mem_cons, List.not_mem_nil, or_false]; omega) h
set_option maxRecDepth 100000 in
set_option maxHeartbeats 4000000 in
theorem rwrite_full (T V S : Int) (c : Cdr) (kind tx at_ v x why : Int) (th : Nat) (C b : Nat) (most : Int) (bs : List Nat) (W : World) (hok : EvOk ⟨kind, (th : Int), tx, at_, v, x, why⟩) (hC : Blk W C (cdrA T V S c) 90) (hN : NamesR W) (hT : 1 ≤ T ∧ T ≤ 6) (hV : 1 ≤ V ∧ V ≤ 32) (hS : 1 ≤ S ∧ S ≤ 32) (hc : OkC T c) (ht : tellsC T V S c ⟨kind, (th : Int), tx, at_, v, x, why⟩ = true) (hw : RWrt W b most bs) (hb8 : ∀ q ∈ bs, q < 256) (hCb : C ≠ b) (hl : bs.length ≤ 16777216) (hfit : most < ((bs.length + (bytesC T c ⟨kind, (th : Int), tx, at_, v, x, why⟩).length : Nat) : Int)) :
    Calls Tryd.prog 18 #[.pointer (some ⟨C, 0, none⟩), .pointer (some ⟨b, 0, none⟩), evA ⟨kind, (th : Int), tx, at_, v, x, why⟩] W fun e' W' => e' = .returned (.int .i64 40) ∧ Below W.heap.size W W' := by
  have HTELL := hid (fun W' (h : Below W.heap.size W W') => rtells_any T V S c kind tx at_ v x why th C W' hok (hC.below h) (hN.below h) hT hV hS)
  rw [ht] at HTELL
  have HBY := hid (fun W' (h : Below W.heap.size W W') => rbytes_any T V S c kind tx at_ v x why th C W' (hC.below h) hc ht hok.2.2.2.2.2.1)
  obtain ⟨W1, hW1⟩ : ∃ W1, W1 = W.alloc (.cells #[.int .u8 kind, .int .i64 (th : Int), .int .i64 tx, .int .i64 at_, .int .i64 v, .int .i64 x, .int .u8 why] 33) := ⟨_, rfl⟩
  have HB1 : Hid (Below W.heap.size W W1) := hid (by rw [hW1]; exact ext_alloc (ext_refl _) _)
  have HBE : Hid (Blk W1 W.heap.size #[.int .u8 kind, .int .i64 (th : Int), .int .i64 tx, .int .i64 at_, .int .i64 v, .int .i64 x, .int .u8 why] 33) := hid (by rw [hW1]; exact Blk.new _ _ _)
  obtain ⟨Z, hZ⟩ : ∃ Z, Z = bstr (bytesC T c ⟨kind, (th : Int), tx, at_, v, x, why⟩) := ⟨_, rfl⟩
  have hbl := (bytes_len (V := V) (S := S) hc ht).2
  have hzb : byt Z = bytesC T c ⟨kind, (th : Int), tx, at_, v, x, why⟩ := by rw [hZ]; exact byt_bstr (bytesC_lt T c _)
  have hzl : Z.size = (bytesC T c ⟨kind, (th : Int), tx, at_, v, x, why⟩).length := by rw [← byt_len, hzb]
  rw [← hZ] at HBY
  have HCC := hid hC
  have HW := hid hw
  have HAT := hid (w_ats ht)
  have HZB := hid hzb
  have HNE := hid (show C < W.heap.size ∧ b < W.heap.size ∧ C ≠ b from ⟨hC.lt, Blk.lt hw, hCb⟩)
  dsimp only [evA] at HTELL HBY ⊢
  have HRAW := hid (fun W' (h : Below W.heap.size W W') => rraw_no b most bs Z W' (Blk.below h hw) hl (by omega) (by rw [hzl]; exact hfit))
  have HW1 := hid hW1
  obtain ⟨Q, hQ⟩ : ∃ Q : Ending → World → Prop, Q = fun e' W' => e' = .returned (.int .i64 40) ∧ Below W.heap.size W W' := ⟨_, rfl⟩
  rw [← hQ]
  have HQ := hid hQ
  clear hQ hW1 hZ hbl hzb hzl ht hC hok hT hV hS hc hw hb8 hCb hl hfit hN
  go_enter Tryd.func18, Tryd.ntmps18
  go_wp2_with fail
  rw [← HW1.out]
  refine (HTELL.out _ HB1.out).mono ?_
  rintro e' W2 ⟨rfl, hb2⟩
  have HB2 := hid (ext_trans HB1.out hb2)
  have hbe2 := HBE.out.below hb2
  have e0 := hbe2.cell 0 (v := .int .u8 kind) rfl
  have e1 := hbe2.cell 1 (v := .int .i64 (th : Int)) rfl
  have e2 := hbe2.cell 2 (v := .int .i64 tx) rfl
  have e3 := hbe2.cell 3 (v := .int .i64 at_) rfl
  have e4 := hbe2.cell 4 (v := .int .i64 v) rfl
  have e5 := hbe2.cell 5 (v := .int .i64 x) rfl
  have e6 := hbe2.cell 6 (v := .int .u8 why) rfl
  have HBE2 := hid hbe2
  clear hb2 hbe2 HTELL HB1 HBE HW1
  go_wp2_with fail
  refine (HBY.out _ HB2.out).mono ?_
  rintro e' W3 ⟨rfl, hb3⟩
  have HBE3 := hid (HBE2.out.below hb3)
  have HB3 := hid (ext_trans HB2.out hb3)
  clear hb3 HBY HB2 HBE2 e0 e1 e2 e3 e4 e5 e6
  go_wp2_with fail
  refine (HRAW.out _ HB3.out).mono ?_
  rintro e' W4 ⟨rfl, hb4⟩
  go_wp2_with fail
  rw [HQ.out]
  exact ⟨rfl, ext_trans HB3.out hb4⟩
end Go.Proofs.YtokkafiphchejaaDoor
