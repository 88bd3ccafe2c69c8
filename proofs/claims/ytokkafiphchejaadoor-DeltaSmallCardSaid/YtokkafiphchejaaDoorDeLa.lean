/-
  Walk: (*Coder).tells and (*Coder).Write of any event; New.
-/
import Derived.Test.YtokkafiphchejaaDoorDeL9
namespace Go.Proofs.YtokkafiphchejaaDoor
set_option linter.unusedVariables false
set_option linter.unusedSimpArgs false
set_option linter.unusedVariables false
open Go Go.RowKit
set_option maxRecDepth 100000 in
set_option maxHeartbeats 4000000 in
theorem tells_no (T V S : Int) (c : Cdr) (kind th tx at_ v x why : Int) (C : Nat) (W : World) (hok : EvOk ⟨kind, th, tx, at_, v, x, why⟩) (hC : Blk W C (cdrA T V S c) 74) (hKd : KindsAt W) (hm0 : mayE ⟨kind, th, tx, at_, v, x, why⟩ T V S = false) :
    Calls Tryd.prog 29 #[.pointer (some ⟨C, 0, none⟩), evA ⟨kind, th, tx, at_, v, x, why⟩] W fun e' W' => e' = .returned (.bool false) ∧ Below W.heap.size W W' := by
  obtain ⟨WB, hWB⟩ : ∃ WB, WB = W.alloc (.cells #[.int .u8 kind, .int .i64 th, .int .i64 tx, .int .i64 at_, .int .i64 v, .int .i64 x, .int .u8 why] 33) := ⟨_, rfl⟩
  have HLOW : Hid (Below W.heap.size W WB) := hid (by rw [hWB]; exact ext_alloc (ext_refl _) _)
  have HBE : Hid (Blk WB W.heap.size #[.int .u8 kind, .int .i64 th, .int .i64 tx, .int .i64 at_, .int .i64 v, .int .i64 x, .int .u8 why] 33) := hid (by rw [hWB]; exact Blk.new _ _ _)
  have HBC := hid (hC.below HLOW.out)
  obtain ⟨m, hm⟩ : ∃ m, m = mayE ⟨kind, th, tx, at_, v, x, why⟩ T V S := ⟨_, rfl⟩
  have HN := hid (fun W' (h : Below WB.heap.size WB W') => may_any ⟨kind, th, tx, at_, v, x, why⟩ T V S W' hok (hKd.below (ext_trans HLOW.out h)))
  rw [← hm] at HN hm0
  have HM0 := hid hm0
  obtain ⟨mn, hmn⟩ : ∃ mn, (!m) = mn := ⟨_, rfl⟩
  dsimp only [evA] at HN ⊢
  have HWB := hid hWB
  clear hC hKd hm hm0 hWB hok
  go_enter Tryd.func29, Tryd.ntmps29
  go_wp2_with fail
  rw [← HWB.out]
  apply wp_region_knownJ (fun qq => ([.agg #[.int .u8 kind, .int .i64 th, .int .i64 tx, .int .i64 at_, .int .i64 v, .int .i64 x, .int .u8 why], .pointer (some ⟨C, 0, none⟩), .pointer (some ⟨C, 0, none⟩), .pointer (some ⟨C, 0, none⟩), .int .i64 (T), .pointer (some ⟨C, 0, none⟩), .pointer (some ⟨C, 0, none⟩), .pointer (some ⟨C, 1, none⟩), .int .i64 (V), .pointer (some ⟨C, 0, none⟩), .pointer (some ⟨C, 0, none⟩), .pointer (some ⟨C, 2, none⟩), .int .i64 (S), .bool m, .bool mn] : List Value).getD qq undef) (LQ WB [] (fun (_ : Unit) _ => True) () 13)
  focus (simp [putAll, dstOf, Act.put, List.getD]; rfl)
  case hm => kernel_rfl
  case hd => kernel_rfl
  case hb => kernel_rfl
  case hng => kernel_rfl
  case hsz => kernel_rfl
  case hext => exact fun l l' w h H => H.ext (n := 15) (by decide) (fun i hi => h i hi)
  case h0 => exact LQ.start
  case hstep =>
    refine ⟨?_, ?_, ?_, ?_, ?_, ?_, ?_, ?_, ?_, ?_, ?_, ?_, ?_, ?_, ?_,  trivial⟩
    · refine ⟨(fun g b h => by cases h), fun l w' hl hdp hJ hg ρ h1 h2 h3 h4 h5 => ?_⟩
      have HJ := hid hJ
      clear hJ
      have f3 : ρ (.tmp 3) = .pointer (some ⟨W.heap.size, 0, none⟩) := h5 3 (by kernel_rfl)
      have hbe := HJ.out.turn.blk (by simp) HBE.out
      have e0 := hbe.cell 0 (v := .int .u8 (kind)) rfl
      have e1 := hbe.cell 1 (v := .int .i64 (th)) rfl
      have e2 := hbe.cell 2 (v := .int .i64 (tx)) rfl
      have e3 := hbe.cell 3 (v := .int .i64 (at_)) rfl
      have e4 := hbe.cell 4 (v := .int .i64 (v)) rfl
      have e5 := hbe.cell 5 (v := .int .i64 (x)) rfl
      have e6 := hbe.cell 6 (v := .int .u8 (why)) rfl
      clear hbe
      clear h4 h5 hg
      unfold OpY
      go_simp
      first | exact ⟨rfl, HJ.out.put 0 (by decide)⟩ | exact ⟨Or.inr rfl, HJ.out.put 0 (by decide)⟩
    · refine ⟨(fun g b h => by cases h), fun l w' hl hdp hJ hg ρ h1 h2 h3 h4 h5 => ?_⟩
      have HJ := hid hJ
      clear hJ
      have f0 : ρ (.tmp 0) = .pointer (some ⟨C, 0, none⟩) := h5 0 (by kernel_rfl)
      clear h4 h5 hg
      unfold OpY
      go_simp
      first | exact ⟨rfl, HJ.out.put 1 (by decide)⟩ | exact ⟨Or.inr rfl, HJ.out.put 1 (by decide)⟩
    · refine ⟨(fun g b h => by cases h), fun l w' hl hdp hJ hg ρ h1 h2 h3 h4 h5 => ?_⟩
      have HJ := hid hJ
      clear hJ
      have f6 : ρ (.tmp 6) = .pointer (some ⟨C, 0, none⟩) := h4 1 6 (by kernel_rfl) (by kernel_rfl)
      clear h4 h5 hg
      unfold OpY
      go_simp
      first | exact ⟨rfl, HJ.out.put 2 (by decide)⟩ | exact ⟨Or.inr rfl, HJ.out.put 2 (by decide)⟩
    · refine ⟨(fun g b h => by cases h), fun l w' hl hdp hJ hg ρ h1 h2 h3 h4 h5 => ?_⟩
      have HJ := hid hJ
      clear hJ
      have f7 : ρ (.tmp 7) = .pointer (some ⟨C, 0, none⟩) := h4 2 7 (by kernel_rfl) (by kernel_rfl)
      clear h4 h5 hg
      unfold OpY
      go_simp
      first | exact ⟨rfl, HJ.out.put 3 (by decide)⟩ | exact ⟨Or.inr rfl, HJ.out.put 3 (by decide)⟩
    · refine ⟨(fun g b h => by cases h), fun l w' hl hdp hJ hg ρ h1 h2 h3 h4 h5 => ?_⟩
      have HJ := hid hJ
      clear hJ
      have f8 : ρ (.tmp 8) = .pointer (some ⟨C, 0, none⟩) := h4 3 8 (by kernel_rfl) (by kernel_rfl)
      have c : w'.cell? ⟨C, 0, none⟩ = some (.int .i64 (T)) := (HJ.out.turn.blk (by simp) HBC.out).cell 0 rfl
      clear h4 h5 hg
      unfold OpY
      go_simp
      first | exact ⟨rfl, HJ.out.put 4 (by decide)⟩ | exact ⟨Or.inr rfl, HJ.out.put 4 (by decide)⟩
    · refine ⟨(fun g b h => by cases h), fun l w' hl hdp hJ hg ρ h1 h2 h3 h4 h5 => ?_⟩
      have HJ := hid hJ
      clear hJ
      have f0 : ρ (.tmp 0) = .pointer (some ⟨C, 0, none⟩) := h5 0 (by kernel_rfl)
      clear h4 h5 hg
      unfold OpY
      go_simp
      first | exact ⟨rfl, HJ.out.put 5 (by decide)⟩ | exact ⟨Or.inr rfl, HJ.out.put 5 (by decide)⟩
    · refine ⟨(fun g b h => by cases h), fun l w' hl hdp hJ hg ρ h1 h2 h3 h4 h5 => ?_⟩
      have HJ := hid hJ
      clear hJ
      have f10 : ρ (.tmp 10) = .pointer (some ⟨C, 0, none⟩) := h4 5 10 (by kernel_rfl) (by kernel_rfl)
      clear h4 h5 hg
      unfold OpY
      go_simp
      first | exact ⟨rfl, HJ.out.put 6 (by decide)⟩ | exact ⟨Or.inr rfl, HJ.out.put 6 (by decide)⟩
    · refine ⟨(fun g b h => by cases h), fun l w' hl hdp hJ hg ρ h1 h2 h3 h4 h5 => ?_⟩
      have HJ := hid hJ
      clear hJ
      have f11 : ρ (.tmp 11) = .pointer (some ⟨C, 0, none⟩) := h4 6 11 (by kernel_rfl) (by kernel_rfl)
      clear h4 h5 hg
      unfold OpY
      go_simp
      first | exact ⟨rfl, HJ.out.put 7 (by decide)⟩ | exact ⟨Or.inr rfl, HJ.out.put 7 (by decide)⟩
    · refine ⟨(fun g b h => by cases h), fun l w' hl hdp hJ hg ρ h1 h2 h3 h4 h5 => ?_⟩
      have HJ := hid hJ
      clear hJ
      have f12 : ρ (.tmp 12) = .pointer (some ⟨C, 1, none⟩) := h4 7 12 (by kernel_rfl) (by kernel_rfl)
      have c : w'.cell? ⟨C, 1, none⟩ = some (.int .i64 (V)) := (HJ.out.turn.blk (by simp) HBC.out).cell 1 rfl
      clear h4 h5 hg
      unfold OpY
      go_simp
      first | exact ⟨rfl, HJ.out.put 8 (by decide)⟩ | exact ⟨Or.inr rfl, HJ.out.put 8 (by decide)⟩
    · refine ⟨(fun g b h => by cases h), fun l w' hl hdp hJ hg ρ h1 h2 h3 h4 h5 => ?_⟩
      have HJ := hid hJ
      clear hJ
      have f0 : ρ (.tmp 0) = .pointer (some ⟨C, 0, none⟩) := h5 0 (by kernel_rfl)
      clear h4 h5 hg
      unfold OpY
      go_simp
      first | exact ⟨rfl, HJ.out.put 9 (by decide)⟩ | exact ⟨Or.inr rfl, HJ.out.put 9 (by decide)⟩
    · refine ⟨(fun g b h => by cases h), fun l w' hl hdp hJ hg ρ h1 h2 h3 h4 h5 => ?_⟩
      have HJ := hid hJ
      clear hJ
      have f14 : ρ (.tmp 14) = .pointer (some ⟨C, 0, none⟩) := h4 9 14 (by kernel_rfl) (by kernel_rfl)
      clear h4 h5 hg
      unfold OpY
      go_simp
      first | exact ⟨rfl, HJ.out.put 10 (by decide)⟩ | exact ⟨Or.inr rfl, HJ.out.put 10 (by decide)⟩
    · refine ⟨(fun g b h => by cases h), fun l w' hl hdp hJ hg ρ h1 h2 h3 h4 h5 => ?_⟩
      have HJ := hid hJ
      clear hJ
      have f15 : ρ (.tmp 15) = .pointer (some ⟨C, 0, none⟩) := h4 10 15 (by kernel_rfl) (by kernel_rfl)
      clear h4 h5 hg
      unfold OpY
      go_simp
      first | exact ⟨rfl, HJ.out.put 11 (by decide)⟩ | exact ⟨Or.inr rfl, HJ.out.put 11 (by decide)⟩
    · refine ⟨(fun g b h => by cases h), fun l w' hl hdp hJ hg ρ h1 h2 h3 h4 h5 => ?_⟩
      have HJ := hid hJ
      clear hJ
      have f16 : ρ (.tmp 16) = .pointer (some ⟨C, 2, none⟩) := h4 11 16 (by kernel_rfl) (by kernel_rfl)
      have c : w'.cell? ⟨C, 2, none⟩ = some (.int .i64 (S)) := (HJ.out.turn.blk (by simp) HBC.out).cell 2 rfl
      clear h4 h5 hg
      unfold OpY
      go_simp
      first | exact ⟨rfl, HJ.out.put 12 (by decide)⟩ | exact ⟨Or.inr rfl, HJ.out.put 12 (by decide)⟩
    · refine ⟨(fun g b h => by cases h), fun l w' hl hdp hJ hg ρ h1 h2 h3 h4 h5 => ?_⟩
      have HJ := hid hJ
      clear hJ
      have f5 : ρ (.tmp 5) = .agg #[.int .u8 kind, .int .i64 th, .int .i64 tx, .int .i64 at_, .int .i64 v, .int .i64 x, .int .u8 why] := h4 0 5 (by kernel_rfl) (by kernel_rfl)
      have f9 : ρ (.tmp 9) = .int .i64 (T) := h4 4 9 (by kernel_rfl) (by kernel_rfl)
      have f13 : ρ (.tmp 13) = .int .i64 (V) := h4 8 13 (by kernel_rfl) (by kernel_rfl)
      have f17 : ρ (.tmp 17) = .int .i64 (S) := h4 12 17 (by kernel_rfl) (by kernel_rfl)
      clear h4 h5 hg
      unfold OpY
      go_simp
      unfold OpR
      have h0 := HJ.out.pre hl
      subst h0
      refine (HN.out _ (ext_drew (ext_refl _))).mono ?_
      rintro e' w'' ⟨rfl, hb'⟩
      first | exact ⟨_, rfl, rfl, LQ.call trivial (Turn.of_below hb')⟩ | exact ⟨_, rfl, Or.inr rfl, LQ.call trivial (Turn.of_below hb')⟩
    · refine ⟨(fun g b h => by cases h), fun l w' hl hdp hJ hg ρ h1 h2 h3 h4 h5 => ?_⟩
      have HJ := hid hJ
      clear hJ
      have f18 : ρ (.tmp 18) = .bool m := h4 13 18 (by kernel_rfl) (by kernel_rfl)
      clear h4 h5 hg
      unfold OpY
      go_simp
      first | exact ⟨rfl, HJ.out.put 14 (by decide)⟩ | exact ⟨Or.inr rfl, HJ.out.put 14 (by decide)⟩
  case hdone =>
    intro W1 hJ
    have HF := hid (hJ.mid rfl)
    clear hJ
    have hlow1 : Below W.heap.size W W1 := HLOW.out.trans (HF.out.2.below (by simp) (HLOW.out.size))
    have HLOW1 := hid hlow1
    clear hlow1 HF HN HBE HBC HLOW HWB
    have hm1 := HM0.out
    subst hm1
    obtain rfl : mn = true := by simpa using hmn.symm
    clear hmn
    go_wp2_with fail
    go_ret
    exact ⟨rfl, HLOW1.out⟩
theorem tells_all (T V S : Int) (c : Cdr) (e : Ev) (C : Nat) (W : World) (hok : EvOk e) (hC : Blk W C (cdrA T V S c) 74) (hKd : KindsAt W) (hT : 1 ≤ T ∧ T ≤ 6) (hV : 1 ≤ V ∧ V ≤ 32) (hS : 1 ≤ S ∧ S ≤ 32) :
    Calls Tryd.prog 29 #[.pointer (some ⟨C, 0, none⟩), evA e] W fun e' W' => e' = .returned (.bool (tellsC T V S c e)) ∧ Below W.heap.size W W' := by
  cases hm : mayE e T V S with
  | false =>
    have : tellsC T V S c e = false := by unfold tellsC; rw [hm]; rfl
    rw [this]
    exact tells_no T V S c _ _ _ _ _ _ _ C W hok hC hKd hm
  | true =>
    obtain ⟨hs, ⟨k1, k2, hw, t1, t2, -⟩, -⟩ := may_sizes' hm
    obtain ⟨kind, th, tx, at_, v, x, why⟩ := e
    dsimp only at *
    obtain ⟨n, rfl⟩ := Int.eq_ofNat_of_zero_le t1
    exact tells_any T V S c kind tx at_ v x why n C W hok hC hKd hT hV hS
set_option maxRecDepth 100000 in
set_option maxHeartbeats 4000000 in
theorem write_no (T V S : Int) (c : Cdr) (e : Ev) (C b : Nat) (W : World) (hok : EvOk e) (hC : Blk W C (cdrA T V S c) 74) (hKd : KindsAt W) (hT : 1 ≤ T ∧ T ≤ 6) (hV : 1 ≤ V ∧ V ≤ 32) (hS : 1 ≤ S ∧ S ≤ 32)
    (ht : tellsC T V S c e = false) :
    Calls Tryd.prog 12 #[.pointer (some ⟨C, 0, none⟩), .pointer (some ⟨b, 0, none⟩), evA e] W fun e' W' => e' = .returned (.int .i64 4) ∧ Below W.heap.size W W' := by
  have HTELL := hid (fun W' (h : Below W.heap.size W W') => tells_all T V S c e C W' hok (hC.below h) (hKd.below h) hT hV hS)
  rw [ht] at HTELL
  obtain ⟨kind, th, tx, at_, v, x, why⟩ := e
  have hbe := Blk.new W #[.int .u8 kind, .int .i64 th, .int .i64 tx, .int .i64 at_, .int .i64 v, .int .i64 x, .int .u8 why] 33
  have f0 := hbe.cell 0 (v := .int .u8 kind) rfl
  have HLOW : Hid (Below W.heap.size W (W.alloc (.cells #[.int .u8 kind, .int .i64 th, .int .i64 tx, .int .i64 at_, .int .i64 v, .int .i64 x, .int .u8 why] 33))) := hid (ext_alloc (ext_refl _) _)
  dsimp only [evA] at HTELL ⊢
  clear hbe f0 ht hC hok hT hV hS
  go_enter Tryd.func12, Tryd.ntmps12
  go_wp2_with fail
  refine (HTELL.out _ HLOW.out).mono ?_
  rintro e' W2 ⟨rfl, hb2⟩
  go_wp2_with fail
  all_goals (try go_ret)
  exact ⟨rfl, ext_trans HLOW.out hb2⟩
theorem may_wait (T V S : Int) : mayE ⟨12, 0, 0, 0, 0, 0, 0⟩ T V S = sizesB T V S := by
  unfold mayE
  cases h : sizesB T V S with
  | false => rfl
  | true =>
    unfold sizesB at h
    simp at h
    simp [leastV, placesE, bareE]
    omega
set_option maxRecDepth 100000 in
set_option maxHeartbeats 4000000 in
theorem new_any (T V S : Int) (W : World) (hKd : KindsAt W) (hok : sizesB T V S = true) :
    Calls Tryd.prog 10 #[.int .i64 T, .int .i64 V, .int .i64 S] W fun e' W' => ∃ C, e' = .returned (.tuple #[.pointer (some ⟨C, 0, none⟩), .int .i64 0]) ∧ W.heap.size ≤ C ∧ Blk W' C (cdrA T V S newC) 74 ∧ Below W.heap.size W W' := by
  have HMAY := hid (fun W' (h : Below W.heap.size W W') => may_any ⟨12, 0, 0, 0, 0, 0, 0⟩ T V S W' (by unfold EvOk; dsimp only; omega) (hKd.below h))
  rw [may_wait, hok] at HMAY
  dsimp only [evA] at HMAY
  clear hok
  obtain ⟨Q, hQ⟩ : ∃ Q : Ending → World → Prop, Q = fun e' W' => ∃ C, e' = .returned (.tuple #[.pointer (some ⟨C, 0, none⟩), .int .i64 0]) ∧ W.heap.size ≤ C ∧ Blk W' C (cdrA T V S newC) 74 ∧ Below W.heap.size W W' := ⟨_, rfl⟩
  rw [← hQ]
  have HQ := hid hQ
  clear hQ
  go_enter Tryd.func10, Tryd.ntmps10
  go_wp2_with fail
  refine (HMAY.out W (Below.refl _ _)).mono ?_
  rintro e' W1 ⟨rfl, hb1⟩
  have HB1 := hid hb1
  clear hb1
  go_wp2_with fail
  rw [HQ.out]
  exact ⟨W1.heap.size, rfl, HB1.out.size, Blk.new _ _ _, ext_alloc HB1.out _⟩
set_option maxRecDepth 100000 in
set_option maxHeartbeats 4000000 in
theorem new_bad' (T V S : Int) (W : World) (hKd : KindsAt W) (hok : sizesB T V S = false) :
    Calls Tryd.prog 10 #[.int .i64 T, .int .i64 V, .int .i64 S] W fun e' W' => e' = .returned (.tuple #[.pointer none, .int .i64 1]) ∧ Below W.heap.size W W' := by
  have HMAY := hid (fun W' (h : Below W.heap.size W W') => may_any ⟨12, 0, 0, 0, 0, 0, 0⟩ T V S W' (by unfold EvOk; dsimp only; omega) (hKd.below h))
  rw [may_wait, hok] at HMAY
  dsimp only [evA] at HMAY
  clear hok
  obtain ⟨Q, hQ⟩ : ∃ Q : Ending → World → Prop, Q = fun e' W' => e' = .returned (.tuple #[.pointer none, .int .i64 1]) ∧ Below W.heap.size W W' := ⟨_, rfl⟩
  rw [← hQ]
  have HQ := hid hQ
  clear hQ
  go_enter Tryd.func10, Tryd.ntmps10
  go_wp2_with fail
  refine (HMAY.out W (Below.refl _ _)).mono ?_
  rintro e' W1 ⟨rfl, hb1⟩
  go_wp2_with fail
  rw [HQ.out]
  exact ⟨rfl, hb1⟩
end Go.Proofs.YtokkafiphchejaaDoor
