/-
 Joined texts: DeL5 DeL6h DeL6 DeL7 DeL8 DeL9 DeLa DeLb DeR4 DeR5 DeF.
-/
import Derived.Test.YtnblhodhkifeeaaGreatDoorDeL4
import Derived.Test.YtnblhodhkifeeaaGreatDoorTrGD
import Derived.Test.YtnblhodhkifeeaaGreatDoorDeL1b
import Derived.Test.YtnblhodhkifeeaaGreatDoorTrGQ
import Derived.Test.YtnblhodhkifeeaaGreatDoorTrGK
import Derived.Laws.EntriesVeiled
import Derived.Test.YtnblhodhkifeeaaGreatDoorTrGP
/-
 The writer's closures are as a line asks.
-/
namespace Go.Proofs.YtnblhodhkifeeaaGreatDoor
set_option linter.unusedVariables false
set_option linter.unusedSimpArgs false
open Go Go.RowKit
def WAt (b : Nat) (s : List Nat) (W : World) : Prop := ∃ S : ByteArray, byt S = s ∧ Blk W b #[.string S] 9
def WPx (x : Int) : Prop := 0 ≤ x ∧ x ≤ 4398046511104
def WOk (j : Nat) (s : List Nat) : Prop := s.length + 10 * j ≤ 1000
set_option maxRecDepth 100000 in
set_option maxHeartbeats 4000000 in
theorem wbad_any (W : World) : Calls Tryz.prog 59 #[] W fun e' W' => e' = .returned (.tuple #[]) ∧ W' = W := by
 go_enter Tryz.func59, Tryz.ntmps59
 go_wp2_with fail
 go_end0
 exact ⟨rfl, rfl⟩
theorem wClOk (b : Nat) : ClOk wCl [b] (WAt b) WPx WOk 60 61 59 #[.pointer (some ⟨b, 0, none⟩)] #[.pointer (some ⟨b, 0, none⟩)] #[] where
 okm j s h := by unfold WOk at *; omega
 okn j s x m h := by
  unfold WOk at *
  show (s ++ putN x.toNat).length + 10 * j ≤ 1000
  have := putN_ten x.toNat
  rw [List.length_append]; omega
 en args W := by kernel_rfl
 ei args W := by kernel_rfl
 eb args W := by kernel_rfl
 keep s W W' h hk := by
  obtain ⟨S, h1, h2⟩ := h
  exact ⟨S, h1, by unfold Blk; rw [hk b (by simp)]; exact h2⟩
 num s x most W h ho hp hm := by
  obtain ⟨S, h1, h2⟩ := h
  unfold WPx at hp
  unfold WOk at ho
  obtain ⟨n, rfl⟩ := Int.eq_ofNat_of_zero_le hp.1
  refine (wnum_any n most S b W h2 (by omega) (by rw [← byt_len, h1]; omega)).mono fun e' W' hh => ?_
  obtain ⟨r, S', q1, q2, q3⟩ := hh
  exact ⟨r, ⟨S', by rw [q1, h1]; rfl, q2⟩, q3⟩
 nb s x most hp hm := hp
 int s x W h ho hx := by
  obtain ⟨S, h1, h2⟩ := h
  unfold WOk at ho
  refine (wint_any x S b W h2 hx (by rw [← byt_len, h1]; omega)).mono fun e' W' hh => ?_
  obtain ⟨r, S', q1, q2, q3⟩ := hh
  exact ⟨r, ⟨S', by rw [q1, h1]; rfl, q2⟩, q3⟩
 bad s W h := by
  refine (wbad_any W).mono fun e' W' hh => ?_
  obtain ⟨r, rfl⟩ := hh
  exact ⟨⟨_, r⟩, h, Turn.refl _ _⟩
end Go.Proofs.YtnblhodhkifeeaaGreatDoor
/-
 Regions with one call, and nothing stored: of any program.
-/
namespace Go.Proofs.YtnblhodhkifeeaaGreatDoor
set_option linter.unusedVariables false
open Go Go.RowKit
structure LQ {σ : Type} (W : World) (ks : List Nat) (At : σ → World → Prop) (s' : σ) (ci : Nat) (l : Nat → Bool) (w' : World) : Prop where
 pre : l ci = false → w' = W.drew
 mid : l ci = true → At s' w' ∧ Turn ks W w'
section
variable {σ : Type} {W : World} {ks : List Nat} {At : σ → World → Prop} {s' : σ} {n ci : Nat} {l l' : Nat → Bool} {w' w'' : World}
theorem LQ.ext (hci : ci < n) (h : ∀ i, i < n → l i = l' i) (H : LQ W ks At s' ci l w') : LQ W ks At s' ci l' w' where
 pre g := H.pre (by rw [h ci hci]; exact g)
 mid g := H.mid (by rw [h ci hci]; exact g)
theorem LQ.start : LQ W ks At s' ci (fun _ => false) W.drew := ⟨fun _ => rfl, fun h => by (cases h)⟩
theorem LQ.turn (H : LQ W ks At s' ci l w') : Turn ks W w' := by
 cases hc : l ci with
 | false => rw [H.pre hc]; exact (Turn.refl _ _).drew
 | true => exact (H.mid hc).2
theorem LQ.put (H : LQ W ks At s' ci l w') (i : Nat) (hnc : i ≠ ci) : LQ W ks At s' ci (doneL l i) w' := by
 have e2 : doneL l i ci = l ci := by unfold doneL; rw [if_neg (Ne.symm hnc)]
 exact ⟨fun g => H.pre (by rw [← e2]; exact g), fun g => H.mid (by rw [← e2]; exact g)⟩
theorem LQ.call (ha : At s' w'') (ht : Turn ks W.drew w'') : LQ W ks At s' ci (doneL l ci) w'' := by
 have e2 : doneL l ci ci = true := by unfold doneL; rw [if_pos rfl]
 exact ⟨fun g => by (rw [e2] at g; cases g), fun _ => ⟨ha, ((Turn.refl ks W).drew).trans ht⟩⟩
end
end Go.Proofs.YtnblhodhkifeeaaGreatDoor
/-
 Walk: whether an event may be told (its first region is printed by gen_line6.py).
-/
namespace Go.Proofs.YtnblhodhkifeeaaGreatDoor
set_option linter.unusedVariables false
set_option linter.unusedSimpArgs false
open Go Go.RowKit
set_option maxRecDepth 100000 in
set_option maxHeartbeats 4000000 in
theorem tells_any (T V S : Int) (c : Cdr) (kind tx at_ v x why : Int) (th : Nat) (C : Nat) (W : World) (hok : EvOk ⟨kind, (th : Int), tx, at_, v, x, why⟩) (hC : Blk W C (cdrA T V S c) 106) (hKd : KindsAt W) (hT : 1 ≤ T ∧ T ≤ 6) (hV : 1 ≤ V ∧ V ≤ 32) (hS : 1 ≤ S ∧ S ≤ 32) :
  Calls Tryz.prog 58 #[.pointer (some ⟨C, 0, none⟩), evA ⟨kind, (th : Int), tx, at_, v, x, why⟩] W fun e' W' => e' = .returned (.bool (tellsC T V S c ⟨kind, (th : Int), tx, at_, v, x, why⟩)) ∧ Below W.heap.size W W' := by
 obtain ⟨WB, hWB⟩ : ∃ WB, WB = W.alloc (.cells #[.int .u8 kind, .int .i64 (th : Int), .int .i64 tx, .int .i64 at_, .int .i64 v, .int .i64 x, .int .u8 why] 50) := ⟨_, rfl⟩
 have HLOW : Hid (Below W.heap.size W WB) := hid (by rw [hWB]; exact ext_alloc (ext_refl _) _)
 have HBE : Hid (Blk WB W.heap.size #[.int .u8 kind, .int .i64 (th : Int), .int .i64 tx, .int .i64 at_, .int .i64 v, .int .i64 x, .int .u8 why] 50) := hid (by rw [hWB]; exact Blk.new _ _ _)
 have HBC := hid (hC.below HLOW.out)
 obtain ⟨m, hm⟩ : ∃ m, m = mayE ⟨kind, (th : Int), tx, at_, v, x, why⟩ T V S := ⟨_, rfl⟩
 have HN := hid (fun W' (h : Below WB.heap.size WB W') => may_any ⟨kind, (th : Int), tx, at_, v, x, why⟩ T V S W' hok (hKd.below (ext_trans HLOW.out h)))
 rw [← hm] at HN
 obtain ⟨mn, hmn⟩ : ∃ mn, (!m) = mn := ⟨_, rfl⟩
 have ht0 : tellsC T V S c ⟨kind, (th : Int), tx, at_, v, x, why⟩ = (m && if kind = 1 then decide (c.clock ≤ v) else if kind = 2 then decide (v ≤ c.begun th) else if kind = 5 then decide (c.clock < v) else if kind = 7 then decide (v = 0 ∨ v = c.bumped th) else true) := by unfold tellsC; rw [← hm]
 obtain ⟨res, hres⟩ : ∃ res, res = tellsC T V S c ⟨kind, (th : Int), tx, at_, v, x, why⟩ := ⟨_, rfl⟩
 rw [ht0] at hres
 rw [ht0, ← hres]
 have HRES := hid hres
 clear ht0 hres
 have hin := fun (h : m = true) => may_sizes' (e := ⟨kind, (th : Int), tx, at_, v, x, why⟩) (T := T) (V := V) (S := S) (by rw [← hm]; exact h)
 dsimp only at hin
 dsimp only [evA] at HN ⊢
 have HIN := hid hin
 have HWB := hid hWB
 clear hC hKd hT hV hS hm hin hWB hok
 go_enter Tryz.func58, Tryz.ntmps58
 go_wp2_with fail
 rw [← HWB.out]
 apply wp_region_knownJ (fun qq => ([.agg #[.int .u8 kind, .int .i64 (th : Int), .int .i64 tx, .int .i64 at_, .int .i64 v, .int .i64 x, .int .u8 why], .pointer (some ⟨C, 0, none⟩), .pointer (some ⟨C, 0, none⟩), .pointer (some ⟨C, 0, none⟩), .int .i64 (T), .pointer (some ⟨C, 0, none⟩), .pointer (some ⟨C, 0, none⟩), .pointer (some ⟨C, 1, none⟩), .int .i64 (V), .pointer (some ⟨C, 0, none⟩), .pointer (some ⟨C, 0, none⟩), .pointer (some ⟨C, 2, none⟩), .int .i64 (S), .bool m, .bool mn] : List Value).getD qq undef) (LQ WB [] (fun (_ : Unit) _ => True) () 13)
 focus (simp [putAll, dstOf, Act.put, List.getD]; rfl)
 case hm => kernel_rfl
 case hd => kernel_rfl
 case hb => kernel_rfl
 case hng => kernel_rfl
 case hsz => kernel_rfl
 case hext => exact fun l l' w h H => H.ext (n := 15) (by decide) (fun i hi => h i hi)
 case h0 => exact LQ.start
 case hstep =>
  refine ⟨?_, ?_, ?_, ?_, ?_, ?_, ?_, ?_, ?_, ?_, ?_, ?_, ?_, ?_, ?_,  trivial⟩
  ·refine skJ rfl fun l w' hl hdp HJ hg ρ h1 h2 h3 h4 h5 => ?_
   have f3 : ρ (.tmp 3) = .pointer (some ⟨W.heap.size, 0, none⟩) := h5 3 (by kernel_rfl)
   have hbe := HJ.out.turn.blk (by simp) HBE.out
   have e0 := hbe.cell 0 (v := .int .u8 (kind)) rfl
   have e1 := hbe.cell 1 (v := .int .i64 ((th : Int))) rfl
   have e2 := hbe.cell 2 (v := .int .i64 (tx)) rfl
   have e3 := hbe.cell 3 (v := .int .i64 (at_)) rfl
   have e4 := hbe.cell 4 (v := .int .i64 (v)) rfl
   have e5 := hbe.cell 5 (v := .int .i64 (x)) rfl
   have e6 := hbe.cell 6 (v := .int .u8 (why)) rfl
   clear hbe
   clear h4 h5 hg
   unfold OpY
   go_simp
   first | exact ⟨rfl, HJ.out.put 0 (by decide)⟩ | exact ⟨Or.inr rfl, HJ.out.put 0 (by decide)⟩
  ·refine skJ rfl fun l w' hl hdp HJ hg ρ h1 h2 h3 h4 h5 => ?_
   have f0 : ρ (.tmp 0) = .pointer (some ⟨C, 0, none⟩) := h5 0 (by kernel_rfl)
   clear h4 h5 hg
   unfold OpY
   go_simp
   first | exact ⟨rfl, HJ.out.put 1 (by decide)⟩ | exact ⟨Or.inr rfl, HJ.out.put 1 (by decide)⟩
  ·refine skJ rfl fun l w' hl hdp HJ hg ρ h1 h2 h3 h4 h5 => ?_
   have f6 : ρ (.tmp 6) = .pointer (some ⟨C, 0, none⟩) := h4 1 6 (by kernel_rfl) (by kernel_rfl)
   clear h4 h5 hg
   unfold OpY
   go_simp
   first | exact ⟨rfl, HJ.out.put 2 (by decide)⟩ | exact ⟨Or.inr rfl, HJ.out.put 2 (by decide)⟩
  ·refine skJ rfl fun l w' hl hdp HJ hg ρ h1 h2 h3 h4 h5 => ?_
   have f7 : ρ (.tmp 7) = .pointer (some ⟨C, 0, none⟩) := h4 2 7 (by kernel_rfl) (by kernel_rfl)
   clear h4 h5 hg
   unfold OpY
   go_simp
   first | exact ⟨rfl, HJ.out.put 3 (by decide)⟩ | exact ⟨Or.inr rfl, HJ.out.put 3 (by decide)⟩
  ·refine skJ rfl fun l w' hl hdp HJ hg ρ h1 h2 h3 h4 h5 => ?_
   have f8 : ρ (.tmp 8) = .pointer (some ⟨C, 0, none⟩) := h4 3 8 (by kernel_rfl) (by kernel_rfl)
   have c : w'.cell? ⟨C, 0, none⟩ = some (.int .i64 (T)) := (HJ.out.turn.blk (by simp) HBC.out).cell 0 rfl
   clear h4 h5 hg
   unfold OpY
   go_simp
   first | exact ⟨rfl, HJ.out.put 4 (by decide)⟩ | exact ⟨Or.inr rfl, HJ.out.put 4 (by decide)⟩
  ·refine skJ rfl fun l w' hl hdp HJ hg ρ h1 h2 h3 h4 h5 => ?_
   have f0 : ρ (.tmp 0) = .pointer (some ⟨C, 0, none⟩) := h5 0 (by kernel_rfl)
   clear h4 h5 hg
   unfold OpY
   go_simp
   first | exact ⟨rfl, HJ.out.put 5 (by decide)⟩ | exact ⟨Or.inr rfl, HJ.out.put 5 (by decide)⟩
  ·refine skJ rfl fun l w' hl hdp HJ hg ρ h1 h2 h3 h4 h5 => ?_
   have f10 : ρ (.tmp 10) = .pointer (some ⟨C, 0, none⟩) := h4 5 10 (by kernel_rfl) (by kernel_rfl)
   clear h4 h5 hg
   unfold OpY
   go_simp
   first | exact ⟨rfl, HJ.out.put 6 (by decide)⟩ | exact ⟨Or.inr rfl, HJ.out.put 6 (by decide)⟩
  ·refine skJ rfl fun l w' hl hdp HJ hg ρ h1 h2 h3 h4 h5 => ?_
   have f11 : ρ (.tmp 11) = .pointer (some ⟨C, 0, none⟩) := h4 6 11 (by kernel_rfl) (by kernel_rfl)
   clear h4 h5 hg
   unfold OpY
   go_simp
   first | exact ⟨rfl, HJ.out.put 7 (by decide)⟩ | exact ⟨Or.inr rfl, HJ.out.put 7 (by decide)⟩
  ·refine skJ rfl fun l w' hl hdp HJ hg ρ h1 h2 h3 h4 h5 => ?_
   have f12 : ρ (.tmp 12) = .pointer (some ⟨C, 1, none⟩) := h4 7 12 (by kernel_rfl) (by kernel_rfl)
   have c : w'.cell? ⟨C, 1, none⟩ = some (.int .i64 (V)) := (HJ.out.turn.blk (by simp) HBC.out).cell 1 rfl
   clear h4 h5 hg
   unfold OpY
   go_simp
   first | exact ⟨rfl, HJ.out.put 8 (by decide)⟩ | exact ⟨Or.inr rfl, HJ.out.put 8 (by decide)⟩
  ·refine skJ rfl fun l w' hl hdp HJ hg ρ h1 h2 h3 h4 h5 => ?_
   have f0 : ρ (.tmp 0) = .pointer (some ⟨C, 0, none⟩) := h5 0 (by kernel_rfl)
   clear h4 h5 hg
   unfold OpY
   go_simp
   first | exact ⟨rfl, HJ.out.put 9 (by decide)⟩ | exact ⟨Or.inr rfl, HJ.out.put 9 (by decide)⟩
  ·refine skJ rfl fun l w' hl hdp HJ hg ρ h1 h2 h3 h4 h5 => ?_
   have f14 : ρ (.tmp 14) = .pointer (some ⟨C, 0, none⟩) := h4 9 14 (by kernel_rfl) (by kernel_rfl)
   clear h4 h5 hg
   unfold OpY
   go_simp
   first | exact ⟨rfl, HJ.out.put 10 (by decide)⟩ | exact ⟨Or.inr rfl, HJ.out.put 10 (by decide)⟩
  ·refine skJ rfl fun l w' hl hdp HJ hg ρ h1 h2 h3 h4 h5 => ?_
   have f15 : ρ (.tmp 15) = .pointer (some ⟨C, 0, none⟩) := h4 10 15 (by kernel_rfl) (by kernel_rfl)
   clear h4 h5 hg
   unfold OpY
   go_simp
   first | exact ⟨rfl, HJ.out.put 11 (by decide)⟩ | exact ⟨Or.inr rfl, HJ.out.put 11 (by decide)⟩
  ·refine skJ rfl fun l w' hl hdp HJ hg ρ h1 h2 h3 h4 h5 => ?_
   have f16 : ρ (.tmp 16) = .pointer (some ⟨C, 2, none⟩) := h4 11 16 (by kernel_rfl) (by kernel_rfl)
   have c : w'.cell? ⟨C, 2, none⟩ = some (.int .i64 (S)) := (HJ.out.turn.blk (by simp) HBC.out).cell 2 rfl
   clear h4 h5 hg
   unfold OpY
   go_simp
   first | exact ⟨rfl, HJ.out.put 12 (by decide)⟩ | exact ⟨Or.inr rfl, HJ.out.put 12 (by decide)⟩
  ·refine skJ rfl fun l w' hl hdp HJ hg ρ h1 h2 h3 h4 h5 => ?_
   have f5 : ρ (.tmp 5) = .agg #[.int .u8 kind, .int .i64 (th : Int), .int .i64 tx, .int .i64 at_, .int .i64 v, .int .i64 x, .int .u8 why] := h4 0 5 (by kernel_rfl) (by kernel_rfl)
   have f9 : ρ (.tmp 9) = .int .i64 (T) := h4 4 9 (by kernel_rfl) (by kernel_rfl)
   have f13 : ρ (.tmp 13) = .int .i64 (V) := h4 8 13 (by kernel_rfl) (by kernel_rfl)
   have f17 : ρ (.tmp 17) = .int .i64 (S) := h4 12 17 (by kernel_rfl) (by kernel_rfl)
   clear h4 h5 hg
   unfold OpY
   go_simp
   unfold OpR
   have h0 := HJ.out.pre hl
   subst h0
   refine (HN.out _ (ext_drew (ext_refl _))).mono ?_
   rintro e' w'' ⟨rfl, hb'⟩
   first | exact ⟨_, rfl, rfl, LQ.call trivial (Turn.of_below hb')⟩ | exact ⟨_, rfl, Or.inr rfl, LQ.call trivial (Turn.of_below hb')⟩
  ·refine skJ rfl fun l w' hl hdp HJ hg ρ h1 h2 h3 h4 h5 => ?_
   have f18 : ρ (.tmp 18) = .bool m := h4 13 18 (by kernel_rfl) (by kernel_rfl)
   clear h4 h5 hg
   unfold OpY
   go_simp
   first | exact ⟨rfl, HJ.out.put 14 (by decide)⟩ | exact ⟨Or.inr rfl, HJ.out.put 14 (by decide)⟩
 case hdone =>
  intro W1 hJ
  have HF := hid (hJ.mid rfl)
  clear hJ
  have hlow1 : Below W.heap.size W W1 := HLOW.out.trans (HF.out.2.below (by simp) (HLOW.out.size))
  have HLOW1 := hid hlow1
  have hbe := HF.out.2.blk (by simp) HBE.out
  have hbc := HF.out.2.blk (by simp) HBC.out
  have HBE1 := hid hbe
  have HBC1 := hid hbc
  clear hlow1 hbe hbc HF HN HBE HBC HLOW HWB
  cases m with
  | false =>
   obtain rfl : mn = true := by simpa using hmn.symm
   clear hmn
   go_wp2_with fail
   go_ret
   exact ⟨by rw [HRES.out] <;> simp, HLOW1.out⟩
  | true =>
   obtain rfl : mn = false := by simpa using hmn.symm
   obtain ⟨⟨-, t6, -⟩, ⟨-, -, -, -, t2, -⟩, -⟩ := HIN.out rfl
   have jt0 : (0 : Int) ≤ (th : Int) := by omega
   have jt6 : (th : Int) < 6 := by omega
   have HTH := hid (show th < 6 by omega)
   have q0 := HBE1.out.cell 0 (v := .int .u8 kind) rfl
   have q1 := HBE1.out.cell 1 (v := .int .i64 (th : Int)) rfl
   have q4 := HBE1.out.cell 4 (v := .int .i64 v) rfl
   have c4 := HBC1.out.cell 4 (v := .int .i64 c.clock) rfl
   have cb := HBC1.out.cell (5 + th) (cdr_begun T V S c HTH.out)
   have cu := HBC1.out.cell (11 + th) (cdr_bumped T V S c HTH.out)
   clear hmn t6 t2
   by_cases k1 : kind = 1
   ·subst k1
    go_wp2_with fail
    go_quiet (fail)
    go_wp2_with fail
    go_ret
    exact ⟨by rw [HRES.out] <;> simp, HLOW1.out.trans (ext_drewN (ext_refl _) _ |>.mono HLOW1.out.size)⟩
   by_cases k2 : kind = 2
   ·subst k2
    go_wp2_with fail
    go_quiet (fail)
    go_wp2_with fail
    go_ret
    exact ⟨by rw [HRES.out] <;> simp, HLOW1.out.trans (ext_drewN (ext_refl _) _ |>.mono HLOW1.out.size)⟩
   by_cases k5 : kind = 5
   ·subst k5
    go_wp2_with fail
    go_quiet (fail)
    go_wp2_with fail
    go_ret
    exact ⟨by rw [HRES.out] <;> simp, HLOW1.out.trans (ext_drewN (ext_refl _) _ |>.mono HLOW1.out.size)⟩
   by_cases k7 : kind = 7
   ·subst k7
    by_cases hv : v = 0
    ·subst hv
     go_wp2_with fail
     go_quiet (fail)
     go_wp2_with fail
     go_ret
     exact ⟨by rw [HRES.out] <;> simp, HLOW1.out.trans (ext_drewN (ext_refl _) _ |>.mono HLOW1.out.size)⟩
    ·have g1 : (v == 0) = false := by simp [hv]
     have g2 : decide (v = 0) = false := by simp [hv]
     have HV := hid hv
     clear hv
     go_wp2_with fail
     go_quiet (fail)
     go_wp2_with fail
     go_ret
     exact ⟨by rw [HRES.out] <;> simp [HV.out] <;> rfl, HLOW1.out.trans (ext_drewN (ext_refl _) _ |>.mono HLOW1.out.size)⟩
   have g1 : (kind == 1) = false := by simp [k1]
   have g2 : (kind == 2) = false := by simp [k2]
   have g5 : (kind == 5) = false := by simp [k5]
   have g7 : (kind == 7) = false := by simp [k7]
   have f1 : decide (kind = 1) = false := by simp [k1]
   have f2 : decide (kind = 2) = false := by simp [k2]
   have f5 : decide (kind = 5) = false := by simp [k5]
   have f7 : decide (kind = 7) = false := by simp [k7]
   have HK := hid (And.intro k1 (And.intro k2 (And.intro k5 k7)))
   clear k1 k2 k5 k7
   go_wp2_with fail
   go_ret
   exact ⟨by rw [HRES.out] <;> simp [HK.out.1, HK.out.2.1, HK.out.2.2.1, HK.out.2.2.2], HLOW1.out⟩
end Go.Proofs.YtnblhodhkifeeaaGreatDoor
/-
 Walk: what a coder knows of an event (its regions are printed by gen_line7.py).
-/
namespace Go.Proofs.YtnblhodhkifeeaaGreatDoor
set_option linter.unusedVariables false
set_option linter.unusedSimpArgs false
open Go Go.RowKit
theorem set_begun (T V S v : Int) (c : Cdr) {j : Nat} (h : j < 6) : (cdrA T V S c).setIfInBounds (5 + j) (.int .i64 v) = cdrA T V S { c with begun := upd c.begun j v } := by
 have : j = 0 ∨ j = 1 ∨ j = 2 ∨ j = 3 ∨ j = 4 ∨ j = 5 := by omega
 rcases this with rfl | rfl | rfl | rfl | rfl | rfl <;> rfl
theorem set_bumped (T V S v : Int) (c : Cdr) {j : Nat} (h : j < 6) : (cdrA T V S c).setIfInBounds (11 + j) (.int .i64 v) = cdrA T V S { c with bumped := upd c.bumped j v } := by
 have : j = 0 ∨ j = 1 ∨ j = 2 ∨ j = 3 ∨ j = 4 ∨ j = 5 := by omega
 rcases this with rfl | rfl | rfl | rfl | rfl | rfl <;> rfl
theorem set_x (T V S v : Int) (c : Cdr) {j : Nat} (h : j < 32) : (cdrA T V S c).setIfInBounds (17 + j) (.int .i64 v) = cdrA T V S { c with x := upd c.x j v } := by
 have : j = 0 ∨ j = 1 ∨ j = 2 ∨ j = 3 ∨ j = 4 ∨ j = 5 ∨ j = 6 ∨ j = 7 ∨ j = 8 ∨ j = 9 ∨ j = 10 ∨ j = 11 ∨ j = 12 ∨ j = 13 ∨ j = 14 ∨ j = 15 ∨ j = 16 ∨ j = 17 ∨ j = 18 ∨ j = 19 ∨ j = 20 ∨ j = 21 ∨ j = 22 ∨ j = 23 ∨ j = 24 ∨ j = 25 ∨ j = 26 ∨ j = 27 ∨ j = 28 ∨ j = 29 ∨ j = 30 ∨ j = 31 := by omega
 rcases this with rfl | rfl | rfl | rfl | rfl | rfl | rfl | rfl | rfl | rfl | rfl | rfl | rfl | rfl | rfl | rfl | rfl | rfl | rfl | rfl | rfl | rfl | rfl | rfl | rfl | rfl | rfl | rfl | rfl | rfl | rfl | rfl <;> rfl
def KnowsP (T V S : Int) (c : Cdr) (C : Nat) (W : World) (e' : Ending) (W' : World) : Prop := e' = .returned (.tuple #[]) ∧ Blk W' C (cdrA T V S c) 106 ∧ Turn [C] W W'
set_option maxRecDepth 100000 in
set_option maxHeartbeats 4000000 in
theorem knows_any (T V S : Int) (c : Cdr) (kind tx at_ v x why : Int) (th q : Nat) (C : Nat) (W : World) (hC : Blk W C (cdrA T V S c) 106) (hth : th < 6) (hat : at_ = (q : Int)) (hq : kind = 3 ∨ kind = 8 → q < 32) :
  Calls Tryz.prog 64 #[.pointer (some ⟨C, 0, none⟩), evA ⟨kind, (th : Int), tx, at_, v, x, why⟩] W (KnowsP T V S (knowsC c ⟨kind, (th : Int), tx, at_, v, x, why⟩) C W) := by
 have HAT := hid hat
 clear hat
 have hbe := Blk.new W #[.int .u8 kind, .int .i64 (th : Int), .int .i64 tx, .int .i64 at_, .int .i64 v, .int .i64 x, .int .u8 why] 50
 have e1 := hbe.cell 1 (v := .int .i64 (th : Int)) rfl
 have c3w := hC.cell 3 (v := .int .i64 c.last) rfl
 have z3w := hC.free 3
 have hcl := hC.lt
 have hcn : C ≠ W.heap.size := by omega
 have HEC := hid (show W.heap.size ≠ C by omega)
 have hbs : Blk (W.setCell ⟨C, 3, none⟩ (.int .i64 (th : Int))) C (cdrA T V S { c with last := th }) 106 := hC.set 3 (.int .i64 (th : Int))
 have hbe2 : Blk ((W.setCell ⟨C, 3, none⟩ (.int .i64 (th : Int))).alloc (.cells #[.int .u8 kind, .int .i64 (th : Int), .int .i64 tx, .int .i64 at_, .int .i64 v, .int .i64 x, .int .u8 why] 50)) W.heap.size #[.int .u8 kind, .int .i64 (th : Int), .int .i64 tx, .int .i64 at_, .int .i64 v, .int .i64 x, .int .u8 why] 50 := Blk.new' _ _ _ (by simp [World.setCell])
 have hbc2 := hbs.alloc (.cells #[.int .u8 kind, .int .i64 (th : Int), .int .i64 tx, .int .i64 at_, .int .i64 v, .int .i64 x, .int .u8 why] 50)
 have ht2 : Turn [C] W ((W.setCell ⟨C, 3, none⟩ (.int .i64 (th : Int))).alloc (.cells #[.int .u8 kind, .int .i64 (th : Int), .int .i64 tx, .int .i64 at_, .int .i64 v, .int .i64 x, .int .u8 why] 50)) := ((Turn.refl _ _).setCell (Or.inl (by simp)) _).alloc _
 have e0 := hbe2.cell 0 (v := .int .u8 kind) rfl
 have HTH := hid hth
 have jt0 : (0 : Int) ≤ (th : Int) := by omega
 have jt6 : (th : Int) < 6 := by omega
 have HBE := hid hbe2
 have HBC := hid hbc2
 have HT2 := hid ht2
 dsimp only [evA]
 clear hC hbe hbs hbe2 hbc2 ht2 hth
 unfold KnowsP
 by_cases k1 : kind = 1
 ·subst k1
  clear hq
  go_enter Tryz.func64, Tryz.ntmps64
  go_wp2_with fail
  generalize hW2 : (W.setCell ⟨C, 3, none⟩ (.int .i64 (th : Int))).alloc (.cells #[.int .u8 1, .int .i64 (th : Int), .int .i64 tx, .int .i64 at_, .int .i64 v, .int .i64 x, .int .u8 why] 50) = W2 at *
  generalize hEE : W.heap.size = E at *
  clear e0 e1 c3w z3w hcl hcn hW2 hEE
  apply wp_region_knownJ (fun qq => ([.pointer (some ⟨C, 0, none⟩), .pointer (some ⟨C, 0, none⟩), .pointer (some ⟨E, 1, none⟩), .int .i64 ((th : Int)), .pointer (some ⟨E, 4, none⟩), .int .i64 (v), .pointer (some ⟨E, 4, none⟩), .int .i64 (v), .pointer (some ⟨C, 0, none⟩), .pointer (some ⟨C, 4, none⟩), undef, .pointer (some ⟨C, 0, none⟩), .pointer (some ⟨C, 5, none⟩), .pointer (some ⟨C, 5 + th, none⟩), undef] : List Value).getD qq undef) (TwoSt W2.drew C 4 (5 + th) (.int .i64 v) (.int .i64 v) 10 14)
  focus (simp [putAll, dstOf, Act.put, List.getD]; rfl)
  case hm => kernel_rfl
  case hd => kernel_rfl
  case hb => kernel_rfl
  case hng => kernel_rfl
  case hsz => kernel_rfl
  case hext => exact fun l l' w h H => H.ext (by decide) (by decide) h
  case h0 => exact TwoSt.start
  case hstep =>
   refine ⟨?_, ?_, ?_, ?_, ?_, ?_, ?_, ?_, ?_, ?_, ?_, ?_, ?_, ?_, ?_,  trivial⟩
   ·refine skJ rfl fun l w' hl hdp HJ hg ρ h1 h2 h3 h4 h5 => ?_
    have f0 : ρ (.tmp 0) = .pointer (some ⟨C, 0, none⟩) := h5 0 (by kernel_rfl)
    clear h4 h5 hg
    unfold OpY
    go_simp
    first | exact ⟨rfl, HJ.out.other 0 (by decide) (by decide)⟩ | exact ⟨Or.inr rfl, HJ.out.other 0 (by decide) (by decide)⟩
   ·refine skJ rfl fun l w' hl hdp HJ hg ρ h1 h2 h3 h4 h5 => ?_
    have f0 : ρ (.tmp 0) = .pointer (some ⟨C, 0, none⟩) := h5 0 (by kernel_rfl)
    clear h4 h5 hg
    unfold OpY
    go_simp
    first | exact ⟨rfl, HJ.out.other 1 (by decide) (by decide)⟩ | exact ⟨Or.inr rfl, HJ.out.other 1 (by decide) (by decide)⟩
   ·refine skJ rfl fun l w' hl hdp HJ hg ρ h1 h2 h3 h4 h5 => ?_
    have f3 : ρ (.tmp 3) = .pointer (some ⟨E, 0, none⟩) := h5 3 (by kernel_rfl)
    clear h4 h5 hg
    unfold OpY
    go_simp
    first | exact ⟨rfl, HJ.out.other 2 (by decide) (by decide)⟩ | exact ⟨Or.inr rfl, HJ.out.other 2 (by decide) (by decide)⟩
   ·refine skJ rfl fun l w' hl hdp HJ hg ρ h1 h2 h3 h4 h5 => ?_
    have f15 : ρ (.tmp 15) = .pointer (some ⟨E, 1, none⟩) := h4 2 15 (by kernel_rfl) (by kernel_rfl)
    have c := (HJ.out.far (HBE.out.below (ext_drew (ext_refl _))) HEC.out).cell 1 (v := .int .i64 (th : Int)) rfl
    clear h4 h5 hg
    unfold OpY
    go_simp
    first | exact ⟨rfl, HJ.out.other 3 (by decide) (by decide)⟩ | exact ⟨Or.inr rfl, HJ.out.other 3 (by decide) (by decide)⟩
   ·refine skJ rfl fun l w' hl hdp HJ hg ρ h1 h2 h3 h4 h5 => ?_
    have f3 : ρ (.tmp 3) = .pointer (some ⟨E, 0, none⟩) := h5 3 (by kernel_rfl)
    clear h4 h5 hg
    unfold OpY
    go_simp
    first | exact ⟨rfl, HJ.out.other 4 (by decide) (by decide)⟩ | exact ⟨Or.inr rfl, HJ.out.other 4 (by decide) (by decide)⟩
   ·refine skJ rfl fun l w' hl hdp HJ hg ρ h1 h2 h3 h4 h5 => ?_
    have f17 : ρ (.tmp 17) = .pointer (some ⟨E, 4, none⟩) := h4 4 17 (by kernel_rfl) (by kernel_rfl)
    have c := (HJ.out.far (HBE.out.below (ext_drew (ext_refl _))) HEC.out).cell 4 (v := .int .i64 v) rfl
    clear h4 h5 hg
    unfold OpY
    go_simp
    first | exact ⟨rfl, HJ.out.other 5 (by decide) (by decide)⟩ | exact ⟨Or.inr rfl, HJ.out.other 5 (by decide) (by decide)⟩
   ·refine skJ rfl fun l w' hl hdp HJ hg ρ h1 h2 h3 h4 h5 => ?_
    have f3 : ρ (.tmp 3) = .pointer (some ⟨E, 0, none⟩) := h5 3 (by kernel_rfl)
    clear h4 h5 hg
    unfold OpY
    go_simp
    first | exact ⟨rfl, HJ.out.other 6 (by decide) (by decide)⟩ | exact ⟨Or.inr rfl, HJ.out.other 6 (by decide) (by decide)⟩
   ·refine skJ rfl fun l w' hl hdp HJ hg ρ h1 h2 h3 h4 h5 => ?_
    have f19 : ρ (.tmp 19) = .pointer (some ⟨E, 4, none⟩) := h4 6 19 (by kernel_rfl) (by kernel_rfl)
    have c := (HJ.out.far (HBE.out.below (ext_drew (ext_refl _))) HEC.out).cell 4 (v := .int .i64 v) rfl
    clear h4 h5 hg
    unfold OpY
    go_simp
    first | exact ⟨rfl, HJ.out.other 7 (by decide) (by decide)⟩ | exact ⟨Or.inr rfl, HJ.out.other 7 (by decide) (by decide)⟩
   ·refine skJ rfl fun l w' hl hdp HJ hg ρ h1 h2 h3 h4 h5 => ?_
    have f13 : ρ (.tmp 13) = .pointer (some ⟨C, 0, none⟩) := h4 0 13 (by kernel_rfl) (by kernel_rfl)
    clear h4 h5 hg
    unfold OpY
    go_simp
    first | exact ⟨rfl, HJ.out.other 8 (by decide) (by decide)⟩ | exact ⟨Or.inr rfl, HJ.out.other 8 (by decide) (by decide)⟩
   ·refine skJ rfl fun l w' hl hdp HJ hg ρ h1 h2 h3 h4 h5 => ?_
    have f21 : ρ (.tmp 21) = .pointer (some ⟨C, 0, none⟩) := h4 8 21 (by kernel_rfl) (by kernel_rfl)
    clear h4 h5 hg
    unfold OpY
    go_simp
    first | exact ⟨rfl, HJ.out.other 9 (by decide) (by decide)⟩ | exact ⟨Or.inr rfl, HJ.out.other 9 (by decide) (by decide)⟩
   ·refine skJ rfl fun l w' hl hdp HJ hg ρ h1 h2 h3 h4 h5 => ?_
    have f22 : ρ (.tmp 22) = .pointer (some ⟨C, 4, none⟩) := h4 9 22 (by kernel_rfl) (by kernel_rfl)
    have f18 : ρ (.tmp 18) = .int .i64 (v) := h4 5 18 (by kernel_rfl) (by kernel_rfl)
    obtain ⟨hw, hq⟩ := HJ.out.first (by decide) hl
    subst hw
    have HQ := hid hq
    have cc := (HBC.out.below (ext_drew (ext_refl _))).cell 4 (v := .int .i64 (c.clock)) rfl
    have zz := (HBC.out.below (ext_drew (ext_refl _))).free 4
    clear hq
    clear h4 h5 hg
    unfold OpY
    go_simp
    exact HQ.out
   ·refine skJ rfl fun l w' hl hdp HJ hg ρ h1 h2 h3 h4 h5 => ?_
    have f14 : ρ (.tmp 14) = .pointer (some ⟨C, 0, none⟩) := h4 1 14 (by kernel_rfl) (by kernel_rfl)
    clear h4 h5 hg
    unfold OpY
    go_simp
    first | exact ⟨rfl, HJ.out.other 11 (by decide) (by decide)⟩ | exact ⟨Or.inr rfl, HJ.out.other 11 (by decide) (by decide)⟩
   ·refine skJ rfl fun l w' hl hdp HJ hg ρ h1 h2 h3 h4 h5 => ?_
    have f23 : ρ (.tmp 23) = .pointer (some ⟨C, 0, none⟩) := h4 11 23 (by kernel_rfl) (by kernel_rfl)
    clear h4 h5 hg
    unfold OpY
    go_simp
    first | exact ⟨rfl, HJ.out.other 12 (by decide) (by decide)⟩ | exact ⟨Or.inr rfl, HJ.out.other 12 (by decide) (by decide)⟩
   ·refine skJ rfl fun l w' hl hdp HJ hg ρ h1 h2 h3 h4 h5 => ?_
    have f24 : ρ (.tmp 24) = .pointer (some ⟨C, 5, none⟩) := h4 12 24 (by kernel_rfl) (by kernel_rfl)
    have f16 : ρ (.tmp 16) = .int .i64 ((th : Int)) := h4 3 16 (by kernel_rfl) (by kernel_rfl)
    clear h4 h5 hg
    unfold OpY
    go_simp
    first | exact ⟨rfl, HJ.out.other 13 (by decide) (by decide)⟩ | exact ⟨Or.inr rfl, HJ.out.other 13 (by decide) (by decide)⟩
   ·refine skJ rfl fun l w' hl hdp HJ hg ρ h1 h2 h3 h4 h5 => ?_
    have f25 : ρ (.tmp 25) = .pointer (some ⟨C, 5 + th, none⟩) := h4 13 25 (by kernel_rfl) (by kernel_rfl)
    have f20 : ρ (.tmp 20) = .int .i64 (v) := h4 7 20 (by kernel_rfl) (by kernel_rfl)
    obtain ⟨hw, hq⟩ := HJ.out.second (by decide) (hdp 10 (by kernel_rfl)) hl
    subst hw
    have HQ := hid hq
    have cc2 := HBC.out.cell (5 + th) (cdr_begun T V S { c with last := th } HTH.out)
    have zz2 := HBC.out.free (5 + th)
    have cc := ((HBC.out.below (ext_drew (ext_refl _))).set 4 (.int .i64 v)).cell (5 + th) (cdr_begun T V S { c with last := th, clock := v } HTH.out)
    have zz := ((HBC.out.below (ext_drew (ext_refl _))).set 4 (.int .i64 v)).free (5 + th)
    clear hq
    clear h4 h5 hg
    unfold OpY
    go_simp
    exact HQ.out
  case hdone =>
   intro W3 hJ
   have hw := hJ.done
   clear hJ
   have hb3 := ((HBC.out.below (ext_drew (ext_refl _))).set 4 (.int .i64 v))
   have hb4 : Blk _ C (cdrA T V S { c with last := th, clock := v }) 106 := hb3
   have hb5 := hb4.set (5 + th) (.int .i64 v)
   rw [set_begun T V S v _ HTH.out] at hb5
   have hb6 : Blk W3 C (cdrA T V S (knowsC c ⟨1, (th : Int), tx, at_, v, x, why⟩)) 106 := by rw [hw]; exact hb5
   have ht3 : Turn [C] W W3 := by rw [hw]; exact ((HT2.out.drew).setCell (Or.inl (by simp)) _).setCell (Or.inl (by simp)) _
   have HB6 := hid hb6
   have HT3 := hid ht3
   clear hb3 hb4 hb5 hb6 ht3 hw
   go_wp2_with fail
   go_end0
   exact ⟨rfl, HB6.out, HT3.out⟩
 by_cases k5 : kind = 5
 ·subst k5
  clear hq
  go_enter Tryz.func64, Tryz.ntmps64
  go_wp2_with fail
  generalize hW2 : (W.setCell ⟨C, 3, none⟩ (.int .i64 (th : Int))).alloc (.cells #[.int .u8 5, .int .i64 (th : Int), .int .i64 tx, .int .i64 at_, .int .i64 v, .int .i64 x, .int .u8 why] 50) = W2 at *
  generalize hEE : W.heap.size = E at *
  clear e0 e1 c3w z3w hcl hcn hW2 hEE
  apply wp_region_knownJ (fun qq => ([.pointer (some ⟨C, 0, none⟩), .pointer (some ⟨C, 0, none⟩), .pointer (some ⟨E, 1, none⟩), .int .i64 ((th : Int)), .pointer (some ⟨E, 4, none⟩), .int .i64 (v), .pointer (some ⟨E, 4, none⟩), .int .i64 (v), .pointer (some ⟨C, 0, none⟩), .pointer (some ⟨C, 4, none⟩), undef, .pointer (some ⟨C, 0, none⟩), .pointer (some ⟨C, 11, none⟩), .pointer (some ⟨C, 11 + th, none⟩), undef] : List Value).getD qq undef) (TwoSt W2.drew C 4 (11 + th) (.int .i64 v) (.int .i64 v) 10 14)
  focus (simp [putAll, dstOf, Act.put, List.getD]; rfl)
  case hm => kernel_rfl
  case hd => kernel_rfl
  case hb => kernel_rfl
  case hng => kernel_rfl
  case hsz => kernel_rfl
  case hext => exact fun l l' w h H => H.ext (by decide) (by decide) h
  case h0 => exact TwoSt.start
  case hstep =>
   refine ⟨?_, ?_, ?_, ?_, ?_, ?_, ?_, ?_, ?_, ?_, ?_, ?_, ?_, ?_, ?_,  trivial⟩
   ·refine skJ rfl fun l w' hl hdp HJ hg ρ h1 h2 h3 h4 h5 => ?_
    have f0 : ρ (.tmp 0) = .pointer (some ⟨C, 0, none⟩) := h5 0 (by kernel_rfl)
    clear h4 h5 hg
    unfold OpY
    go_simp
    first | exact ⟨rfl, HJ.out.other 0 (by decide) (by decide)⟩ | exact ⟨Or.inr rfl, HJ.out.other 0 (by decide) (by decide)⟩
   ·refine skJ rfl fun l w' hl hdp HJ hg ρ h1 h2 h3 h4 h5 => ?_
    have f0 : ρ (.tmp 0) = .pointer (some ⟨C, 0, none⟩) := h5 0 (by kernel_rfl)
    clear h4 h5 hg
    unfold OpY
    go_simp
    first | exact ⟨rfl, HJ.out.other 1 (by decide) (by decide)⟩ | exact ⟨Or.inr rfl, HJ.out.other 1 (by decide) (by decide)⟩
   ·refine skJ rfl fun l w' hl hdp HJ hg ρ h1 h2 h3 h4 h5 => ?_
    have f3 : ρ (.tmp 3) = .pointer (some ⟨E, 0, none⟩) := h5 3 (by kernel_rfl)
    clear h4 h5 hg
    unfold OpY
    go_simp
    first | exact ⟨rfl, HJ.out.other 2 (by decide) (by decide)⟩ | exact ⟨Or.inr rfl, HJ.out.other 2 (by decide) (by decide)⟩
   ·refine skJ rfl fun l w' hl hdp HJ hg ρ h1 h2 h3 h4 h5 => ?_
    have f30 : ρ (.tmp 30) = .pointer (some ⟨E, 1, none⟩) := h4 2 30 (by kernel_rfl) (by kernel_rfl)
    have c := (HJ.out.far (HBE.out.below (ext_drew (ext_refl _))) HEC.out).cell 1 (v := .int .i64 (th : Int)) rfl
    clear h4 h5 hg
    unfold OpY
    go_simp
    first | exact ⟨rfl, HJ.out.other 3 (by decide) (by decide)⟩ | exact ⟨Or.inr rfl, HJ.out.other 3 (by decide) (by decide)⟩
   ·refine skJ rfl fun l w' hl hdp HJ hg ρ h1 h2 h3 h4 h5 => ?_
    have f3 : ρ (.tmp 3) = .pointer (some ⟨E, 0, none⟩) := h5 3 (by kernel_rfl)
    clear h4 h5 hg
    unfold OpY
    go_simp
    first | exact ⟨rfl, HJ.out.other 4 (by decide) (by decide)⟩ | exact ⟨Or.inr rfl, HJ.out.other 4 (by decide) (by decide)⟩
   ·refine skJ rfl fun l w' hl hdp HJ hg ρ h1 h2 h3 h4 h5 => ?_
    have f32 : ρ (.tmp 32) = .pointer (some ⟨E, 4, none⟩) := h4 4 32 (by kernel_rfl) (by kernel_rfl)
    have c := (HJ.out.far (HBE.out.below (ext_drew (ext_refl _))) HEC.out).cell 4 (v := .int .i64 v) rfl
    clear h4 h5 hg
    unfold OpY
    go_simp
    first | exact ⟨rfl, HJ.out.other 5 (by decide) (by decide)⟩ | exact ⟨Or.inr rfl, HJ.out.other 5 (by decide) (by decide)⟩
   ·refine skJ rfl fun l w' hl hdp HJ hg ρ h1 h2 h3 h4 h5 => ?_
    have f3 : ρ (.tmp 3) = .pointer (some ⟨E, 0, none⟩) := h5 3 (by kernel_rfl)
    clear h4 h5 hg
    unfold OpY
    go_simp
    first | exact ⟨rfl, HJ.out.other 6 (by decide) (by decide)⟩ | exact ⟨Or.inr rfl, HJ.out.other 6 (by decide) (by decide)⟩
   ·refine skJ rfl fun l w' hl hdp HJ hg ρ h1 h2 h3 h4 h5 => ?_
    have f34 : ρ (.tmp 34) = .pointer (some ⟨E, 4, none⟩) := h4 6 34 (by kernel_rfl) (by kernel_rfl)
    have c := (HJ.out.far (HBE.out.below (ext_drew (ext_refl _))) HEC.out).cell 4 (v := .int .i64 v) rfl
    clear h4 h5 hg
    unfold OpY
    go_simp
    first | exact ⟨rfl, HJ.out.other 7 (by decide) (by decide)⟩ | exact ⟨Or.inr rfl, HJ.out.other 7 (by decide) (by decide)⟩
   ·refine skJ rfl fun l w' hl hdp HJ hg ρ h1 h2 h3 h4 h5 => ?_
    have f28 : ρ (.tmp 28) = .pointer (some ⟨C, 0, none⟩) := h4 0 28 (by kernel_rfl) (by kernel_rfl)
    clear h4 h5 hg
    unfold OpY
    go_simp
    first | exact ⟨rfl, HJ.out.other 8 (by decide) (by decide)⟩ | exact ⟨Or.inr rfl, HJ.out.other 8 (by decide) (by decide)⟩
   ·refine skJ rfl fun l w' hl hdp HJ hg ρ h1 h2 h3 h4 h5 => ?_
    have f36 : ρ (.tmp 36) = .pointer (some ⟨C, 0, none⟩) := h4 8 36 (by kernel_rfl) (by kernel_rfl)
    clear h4 h5 hg
    unfold OpY
    go_simp
    first | exact ⟨rfl, HJ.out.other 9 (by decide) (by decide)⟩ | exact ⟨Or.inr rfl, HJ.out.other 9 (by decide) (by decide)⟩
   ·refine skJ rfl fun l w' hl hdp HJ hg ρ h1 h2 h3 h4 h5 => ?_
    have f37 : ρ (.tmp 37) = .pointer (some ⟨C, 4, none⟩) := h4 9 37 (by kernel_rfl) (by kernel_rfl)
    have f33 : ρ (.tmp 33) = .int .i64 (v) := h4 5 33 (by kernel_rfl) (by kernel_rfl)
    obtain ⟨hw, hq⟩ := HJ.out.first (by decide) hl
    subst hw
    have HQ := hid hq
    have cc := (HBC.out.below (ext_drew (ext_refl _))).cell 4 (v := .int .i64 (c.clock)) rfl
    have zz := (HBC.out.below (ext_drew (ext_refl _))).free 4
    clear hq
    clear h4 h5 hg
    unfold OpY
    go_simp
    exact HQ.out
   ·refine skJ rfl fun l w' hl hdp HJ hg ρ h1 h2 h3 h4 h5 => ?_
    have f29 : ρ (.tmp 29) = .pointer (some ⟨C, 0, none⟩) := h4 1 29 (by kernel_rfl) (by kernel_rfl)
    clear h4 h5 hg
    unfold OpY
    go_simp
    first | exact ⟨rfl, HJ.out.other 11 (by decide) (by decide)⟩ | exact ⟨Or.inr rfl, HJ.out.other 11 (by decide) (by decide)⟩
   ·refine skJ rfl fun l w' hl hdp HJ hg ρ h1 h2 h3 h4 h5 => ?_
    have f38 : ρ (.tmp 38) = .pointer (some ⟨C, 0, none⟩) := h4 11 38 (by kernel_rfl) (by kernel_rfl)
    clear h4 h5 hg
    unfold OpY
    go_simp
    first | exact ⟨rfl, HJ.out.other 12 (by decide) (by decide)⟩ | exact ⟨Or.inr rfl, HJ.out.other 12 (by decide) (by decide)⟩
   ·refine skJ rfl fun l w' hl hdp HJ hg ρ h1 h2 h3 h4 h5 => ?_
    have f39 : ρ (.tmp 39) = .pointer (some ⟨C, 11, none⟩) := h4 12 39 (by kernel_rfl) (by kernel_rfl)
    have f31 : ρ (.tmp 31) = .int .i64 ((th : Int)) := h4 3 31 (by kernel_rfl) (by kernel_rfl)
    clear h4 h5 hg
    unfold OpY
    go_simp
    first | exact ⟨rfl, HJ.out.other 13 (by decide) (by decide)⟩ | exact ⟨Or.inr rfl, HJ.out.other 13 (by decide) (by decide)⟩
   ·refine skJ rfl fun l w' hl hdp HJ hg ρ h1 h2 h3 h4 h5 => ?_
    have f40 : ρ (.tmp 40) = .pointer (some ⟨C, 11 + th, none⟩) := h4 13 40 (by kernel_rfl) (by kernel_rfl)
    have f35 : ρ (.tmp 35) = .int .i64 (v) := h4 7 35 (by kernel_rfl) (by kernel_rfl)
    obtain ⟨hw, hq⟩ := HJ.out.second (by decide) (hdp 10 (by kernel_rfl)) hl
    subst hw
    have HQ := hid hq
    have cc2 := HBC.out.cell (11 + th) (cdr_bumped T V S { c with last := th } HTH.out)
    have zz2 := HBC.out.free (11 + th)
    have cc := ((HBC.out.below (ext_drew (ext_refl _))).set 4 (.int .i64 v)).cell (11 + th) (cdr_bumped T V S { c with last := th, clock := v } HTH.out)
    have zz := ((HBC.out.below (ext_drew (ext_refl _))).set 4 (.int .i64 v)).free (11 + th)
    clear hq
    clear h4 h5 hg
    unfold OpY
    go_simp
    exact HQ.out
  case hdone =>
   intro W3 hJ
   have hw := hJ.done
   clear hJ
   have hb3 := ((HBC.out.below (ext_drew (ext_refl _))).set 4 (.int .i64 v))
   have hb4 : Blk _ C (cdrA T V S { c with last := th, clock := v }) 106 := hb3
   have hb5 := hb4.set (11 + th) (.int .i64 v)
   rw [set_bumped T V S v _ HTH.out] at hb5
   have hb6 : Blk W3 C (cdrA T V S (knowsC c ⟨5, (th : Int), tx, at_, v, x, why⟩)) 106 := by rw [hw]; exact hb5
   have ht3 : Turn [C] W W3 := by rw [hw]; exact ((HT2.out.drew).setCell (Or.inl (by simp)) _).setCell (Or.inl (by simp)) _
   have HB6 := hid hb6
   have HT3 := hid ht3
   clear hb3 hb4 hb5 hb6 ht3 hw
   go_wp2_with fail
   go_end0
   exact ⟨rfl, HB6.out, HT3.out⟩
 by_cases k38 : kind = 3 ∨ kind = 8
 ·obtain hat := HAT.out
  subst hat
  have hq32 := hq k38
  have HQQ := hid hq32
  have jq0 : (0 : Int) ≤ (q : Int) := by omega
  have jq1 : (q : Int) < 32 := by omega
  clear hq hq32
  by_cases k3 : kind = 3
  ·subst k3
   clear k38
   go_enter Tryz.func64, Tryz.ntmps64
   go_wp2_with fail
   generalize hW2 : (W.setCell ⟨C, 3, none⟩ (.int .i64 (th : Int))).alloc (.cells #[.int .u8 3, .int .i64 (th : Int), .int .i64 tx, .int .i64 (q : Int), .int .i64 v, .int .i64 x, .int .u8 why] 50) = W2 at *
   generalize hEE : W.heap.size = E at *
   clear e0 e1 c3w z3w hcl hcn hW2 hEE
   apply wp_region_knownJ (fun qq => ([.pointer (some ⟨C, 0, none⟩), .pointer (some ⟨E, 3, none⟩), .int .i64 ((q : Int)), .pointer (some ⟨E, 5, none⟩), .int .i64 (x), .pointer (some ⟨C, 0, none⟩), .pointer (some ⟨C, 17, none⟩), .pointer (some ⟨C, 17 + q, none⟩), undef] : List Value).getD qq undef) (LS W2 ⟨C, 17 + q, none⟩ (.int .i64 x) 9 8)
   focus (simp [putAll, dstOf, Act.put, List.getD]; rfl)
   case hm => kernel_rfl
   case hd => kernel_rfl
   case hb => kernel_rfl
   case hng => kernel_rfl
   case hsz => kernel_rfl
   case hext => exact fun l l' w h H => H.ext (by decide) (fun i hi => h i hi)
   case h0 => exact LS.start
   case hstep =>
    refine ⟨?_, ?_, ?_, ?_, ?_, ?_, ?_, ?_, ?_,  trivial⟩
    ·refine skJ rfl fun l w' hl hdp HJ hg ρ h1 h2 h3 h4 h5 => ?_
     have f0 : ρ (.tmp 0) = .pointer (some ⟨C, 0, none⟩) := h5 0 (by kernel_rfl)
     have h0 := HJ.out.not (i := 0) (by decide) (by decide) hl
     clear h0 h4 h5 hg
     unfold OpY
     go_simp
     first | exact ⟨rfl, HJ.out.put (i := 0) (by decide) (by decide) hl (fun e => absurd e (by decide)) (fun e => absurd e (by decide))⟩ | exact ⟨Or.inr rfl, HJ.out.put (i := 0) (by decide) (by decide) hl (fun e => absurd e (by decide)) (fun e => absurd e (by decide))⟩
    ·refine skJ rfl fun l w' hl hdp HJ hg ρ h1 h2 h3 h4 h5 => ?_
     have f3 : ρ (.tmp 3) = .pointer (some ⟨E, 0, none⟩) := h5 3 (by kernel_rfl)
     have h0 := HJ.out.not (i := 1) (by decide) (by decide) hl
     clear h0 h4 h5 hg
     unfold OpY
     go_simp
     first | exact ⟨rfl, HJ.out.put (i := 1) (by decide) (by decide) hl (fun e => absurd e (by decide)) (fun e => absurd e (by decide))⟩ | exact ⟨Or.inr rfl, HJ.out.put (i := 1) (by decide) (by decide) hl (fun e => absurd e (by decide)) (fun e => absurd e (by decide))⟩
    ·refine skJ rfl fun l w' hl hdp HJ hg ρ h1 h2 h3 h4 h5 => ?_
     have f45 : ρ (.tmp 45) = .pointer (some ⟨E, 3, none⟩) := h4 1 45 (by kernel_rfl) (by kernel_rfl)
     have h0 := HJ.out.not (i := 2) (by decide) (by decide) hl
     have hw := HJ.out.pre h0; subst hw; have c := (HBE.out.below (ext_drew (ext_refl _))).cell 3 (v := .int .i64 (q : Int)) rfl
     clear h0 h4 h5 hg
     unfold OpY
     go_simp
     first | exact ⟨rfl, HJ.out.put (i := 2) (by decide) (by decide) hl (fun e => absurd e (by decide)) (fun e => absurd e (by decide))⟩ | exact ⟨Or.inr rfl, HJ.out.put (i := 2) (by decide) (by decide) hl (fun e => absurd e (by decide)) (fun e => absurd e (by decide))⟩
    ·refine skJ rfl fun l w' hl hdp HJ hg ρ h1 h2 h3 h4 h5 => ?_
     have f3 : ρ (.tmp 3) = .pointer (some ⟨E, 0, none⟩) := h5 3 (by kernel_rfl)
     have h0 := HJ.out.not (i := 3) (by decide) (by decide) hl
     clear h0 h4 h5 hg
     unfold OpY
     go_simp
     first | exact ⟨rfl, HJ.out.put (i := 3) (by decide) (by decide) hl (fun e => absurd e (by decide)) (fun e => absurd e (by decide))⟩ | exact ⟨Or.inr rfl, HJ.out.put (i := 3) (by decide) (by decide) hl (fun e => absurd e (by decide)) (fun e => absurd e (by decide))⟩
    ·refine skJ rfl fun l w' hl hdp HJ hg ρ h1 h2 h3 h4 h5 => ?_
     have f47 : ρ (.tmp 47) = .pointer (some ⟨E, 5, none⟩) := h4 3 47 (by kernel_rfl) (by kernel_rfl)
     have h0 := HJ.out.not (i := 4) (by decide) (by decide) hl
     have hw := HJ.out.pre h0; subst hw; have c := (HBE.out.below (ext_drew (ext_refl _))).cell 5 (v := .int .i64 x) rfl
     clear h0 h4 h5 hg
     unfold OpY
     go_simp
     first | exact ⟨rfl, HJ.out.put (i := 4) (by decide) (by decide) hl (fun e => absurd e (by decide)) (fun e => absurd e (by decide))⟩ | exact ⟨Or.inr rfl, HJ.out.put (i := 4) (by decide) (by decide) hl (fun e => absurd e (by decide)) (fun e => absurd e (by decide))⟩
    ·refine skJ rfl fun l w' hl hdp HJ hg ρ h1 h2 h3 h4 h5 => ?_
     have f44 : ρ (.tmp 44) = .pointer (some ⟨C, 0, none⟩) := h4 0 44 (by kernel_rfl) (by kernel_rfl)
     have h0 := HJ.out.not (i := 5) (by decide) (by decide) hl
     clear h0 h4 h5 hg
     unfold OpY
     go_simp
     first | exact ⟨rfl, HJ.out.put (i := 5) (by decide) (by decide) hl (fun e => absurd e (by decide)) (fun e => absurd e (by decide))⟩ | exact ⟨Or.inr rfl, HJ.out.put (i := 5) (by decide) (by decide) hl (fun e => absurd e (by decide)) (fun e => absurd e (by decide))⟩
    ·refine skJ rfl fun l w' hl hdp HJ hg ρ h1 h2 h3 h4 h5 => ?_
     have f49 : ρ (.tmp 49) = .pointer (some ⟨C, 0, none⟩) := h4 5 49 (by kernel_rfl) (by kernel_rfl)
     have h0 := HJ.out.not (i := 6) (by decide) (by decide) hl
     clear h0 h4 h5 hg
     unfold OpY
     go_simp
     first | exact ⟨rfl, HJ.out.put (i := 6) (by decide) (by decide) hl (fun e => absurd e (by decide)) (fun _ => hdp 5 (by kernel_rfl))⟩ | exact ⟨Or.inr rfl, HJ.out.put (i := 6) (by decide) (by decide) hl (fun e => absurd e (by decide)) (fun _ => hdp 5 (by kernel_rfl))⟩
    ·refine skJ rfl fun l w' hl hdp HJ hg ρ h1 h2 h3 h4 h5 => ?_
     have f50 : ρ (.tmp 50) = .pointer (some ⟨C, 17, none⟩) := h4 6 50 (by kernel_rfl) (by kernel_rfl)
     have f46 : ρ (.tmp 46) = .int .i64 ((q : Int)) := h4 2 46 (by kernel_rfl) (by kernel_rfl)
     have h0 := HJ.out.not (i := 7) (by decide) (by decide) hl
     clear h0 h4 h5 hg
     unfold OpY
     go_simp
     first | exact ⟨rfl, HJ.out.put (i := 7) (by decide) (by decide) hl (fun _ => hdp 6 (by kernel_rfl)) (fun e => absurd e (by decide))⟩ | exact ⟨Or.inr rfl, HJ.out.put (i := 7) (by decide) (by decide) hl (fun _ => hdp 6 (by kernel_rfl)) (fun e => absurd e (by decide))⟩
    ·refine skJ rfl fun l w' hl hdp HJ hg ρ h1 h2 h3 h4 h5 => ?_
     have f51 : ρ (.tmp 51) = .pointer (some ⟨C, 17 + q, none⟩) := h4 7 51 (by kernel_rfl) (by kernel_rfl)
     have f48 : ρ (.tmp 48) = .int .i64 (x) := h4 4 48 (by kernel_rfl) (by kernel_rfl)
     have h15 := hdp 7 (by kernel_rfl)
     have h14 := HJ.out.d1 h15
     have h13 := HJ.out.d2 h14
     have hall : ∀ z, z < 9 → z ≠ 8 → l z = true := all_of (si := 8) h13 h14 (by kernel_rfl) hdp
     obtain ⟨hw, hq⟩ := HJ.out.store (by decide) hl hall
     subst hw
     have HQ := hid hq
     have cc := (HBC.out.below (ext_drew (ext_refl _))).cell (17 + q) (cdr_x T V S { c with last := th } HQQ.out)
     have zz := (HBC.out.below (ext_drew (ext_refl _))).free (17 + q)
     have cc2 := HBC.out.cell (17 + q) (cdr_x T V S { c with last := th } HQQ.out)
     have zz2 := HBC.out.free (17 + q)
     clear hall hq h13 h14 h15 h4 h5 hg
     unfold OpY
     go_simp
     exact HQ.out
   case hdone =>
    intro W3 hJ
    have hw := hJ.fin rfl
    clear hJ
    have hb5 := (HBC.out.below (ext_drew (ext_refl _))).set (17 + q) (.int .i64 x)
    rw [set_x T V S x _ HQQ.out] at hb5
    have hb6 : Blk W3 C (cdrA T V S (knowsC c ⟨3, (th : Int), tx, (q : Int), v, x, why⟩)) 106 := by rw [hw]; exact hb5
    have ht3 : Turn [C] W W3 := by rw [hw]; exact (HT2.out.drew).setCell (Or.inl (by simp)) _
    have HB6 := hid hb6
    have HT3 := hid ht3
    clear hb5 hb6 ht3 hw
    go_wp2_with fail
    go_end0
    exact ⟨rfl, HB6.out, HT3.out⟩
  have k8 : kind = 8 := by omega
  subst k8
  clear k38
  go_enter Tryz.func64, Tryz.ntmps64
  go_wp2_with fail
  generalize hW2 : (W.setCell ⟨C, 3, none⟩ (.int .i64 (th : Int))).alloc (.cells #[.int .u8 8, .int .i64 (th : Int), .int .i64 tx, .int .i64 (q : Int), .int .i64 v, .int .i64 x, .int .u8 why] 50) = W2 at *
  generalize hEE : W.heap.size = E at *
  clear e0 e1 c3w z3w hcl hcn hW2 hEE
  apply wp_region_knownJ (fun qq => ([.pointer (some ⟨C, 0, none⟩), .pointer (some ⟨E, 3, none⟩), .int .i64 ((q : Int)), .pointer (some ⟨E, 5, none⟩), .int .i64 (x), .pointer (some ⟨C, 0, none⟩), .pointer (some ⟨C, 17, none⟩), .pointer (some ⟨C, 17 + q, none⟩), undef] : List Value).getD qq undef) (LS W2 ⟨C, 17 + q, none⟩ (.int .i64 x) 9 8)
  focus (simp [putAll, dstOf, Act.put, List.getD]; rfl)
  case hm => kernel_rfl
  case hd => kernel_rfl
  case hb => kernel_rfl
  case hng => kernel_rfl
  case hsz => kernel_rfl
  case hext => exact fun l l' w h H => H.ext (by decide) (fun i hi => h i hi)
  case h0 => exact LS.start
  case hstep =>
   refine ⟨?_, ?_, ?_, ?_, ?_, ?_, ?_, ?_, ?_,  trivial⟩
   ·refine skJ rfl fun l w' hl hdp HJ hg ρ h1 h2 h3 h4 h5 => ?_
    have f0 : ρ (.tmp 0) = .pointer (some ⟨C, 0, none⟩) := h5 0 (by kernel_rfl)
    have h0 := HJ.out.not (i := 0) (by decide) (by decide) hl
    clear h0 h4 h5 hg
    unfold OpY
    go_simp
    first | exact ⟨rfl, HJ.out.put (i := 0) (by decide) (by decide) hl (fun e => absurd e (by decide)) (fun e => absurd e (by decide))⟩ | exact ⟨Or.inr rfl, HJ.out.put (i := 0) (by decide) (by decide) hl (fun e => absurd e (by decide)) (fun e => absurd e (by decide))⟩
   ·refine skJ rfl fun l w' hl hdp HJ hg ρ h1 h2 h3 h4 h5 => ?_
    have f3 : ρ (.tmp 3) = .pointer (some ⟨E, 0, none⟩) := h5 3 (by kernel_rfl)
    have h0 := HJ.out.not (i := 1) (by decide) (by decide) hl
    clear h0 h4 h5 hg
    unfold OpY
    go_simp
    first | exact ⟨rfl, HJ.out.put (i := 1) (by decide) (by decide) hl (fun e => absurd e (by decide)) (fun e => absurd e (by decide))⟩ | exact ⟨Or.inr rfl, HJ.out.put (i := 1) (by decide) (by decide) hl (fun e => absurd e (by decide)) (fun e => absurd e (by decide))⟩
   ·refine skJ rfl fun l w' hl hdp HJ hg ρ h1 h2 h3 h4 h5 => ?_
    have f45 : ρ (.tmp 45) = .pointer (some ⟨E, 3, none⟩) := h4 1 45 (by kernel_rfl) (by kernel_rfl)
    have h0 := HJ.out.not (i := 2) (by decide) (by decide) hl
    have hw := HJ.out.pre h0; subst hw; have c := (HBE.out.below (ext_drew (ext_refl _))).cell 3 (v := .int .i64 (q : Int)) rfl
    clear h0 h4 h5 hg
    unfold OpY
    go_simp
    first | exact ⟨rfl, HJ.out.put (i := 2) (by decide) (by decide) hl (fun e => absurd e (by decide)) (fun e => absurd e (by decide))⟩ | exact ⟨Or.inr rfl, HJ.out.put (i := 2) (by decide) (by decide) hl (fun e => absurd e (by decide)) (fun e => absurd e (by decide))⟩
   ·refine skJ rfl fun l w' hl hdp HJ hg ρ h1 h2 h3 h4 h5 => ?_
    have f3 : ρ (.tmp 3) = .pointer (some ⟨E, 0, none⟩) := h5 3 (by kernel_rfl)
    have h0 := HJ.out.not (i := 3) (by decide) (by decide) hl
    clear h0 h4 h5 hg
    unfold OpY
    go_simp
    first | exact ⟨rfl, HJ.out.put (i := 3) (by decide) (by decide) hl (fun e => absurd e (by decide)) (fun e => absurd e (by decide))⟩ | exact ⟨Or.inr rfl, HJ.out.put (i := 3) (by decide) (by decide) hl (fun e => absurd e (by decide)) (fun e => absurd e (by decide))⟩
   ·refine skJ rfl fun l w' hl hdp HJ hg ρ h1 h2 h3 h4 h5 => ?_
    have f47 : ρ (.tmp 47) = .pointer (some ⟨E, 5, none⟩) := h4 3 47 (by kernel_rfl) (by kernel_rfl)
    have h0 := HJ.out.not (i := 4) (by decide) (by decide) hl
    have hw := HJ.out.pre h0; subst hw; have c := (HBE.out.below (ext_drew (ext_refl _))).cell 5 (v := .int .i64 x) rfl
    clear h0 h4 h5 hg
    unfold OpY
    go_simp
    first | exact ⟨rfl, HJ.out.put (i := 4) (by decide) (by decide) hl (fun e => absurd e (by decide)) (fun e => absurd e (by decide))⟩ | exact ⟨Or.inr rfl, HJ.out.put (i := 4) (by decide) (by decide) hl (fun e => absurd e (by decide)) (fun e => absurd e (by decide))⟩
   ·refine skJ rfl fun l w' hl hdp HJ hg ρ h1 h2 h3 h4 h5 => ?_
    have f44 : ρ (.tmp 44) = .pointer (some ⟨C, 0, none⟩) := h4 0 44 (by kernel_rfl) (by kernel_rfl)
    have h0 := HJ.out.not (i := 5) (by decide) (by decide) hl
    clear h0 h4 h5 hg
    unfold OpY
    go_simp
    first | exact ⟨rfl, HJ.out.put (i := 5) (by decide) (by decide) hl (fun e => absurd e (by decide)) (fun e => absurd e (by decide))⟩ | exact ⟨Or.inr rfl, HJ.out.put (i := 5) (by decide) (by decide) hl (fun e => absurd e (by decide)) (fun e => absurd e (by decide))⟩
   ·refine skJ rfl fun l w' hl hdp HJ hg ρ h1 h2 h3 h4 h5 => ?_
    have f49 : ρ (.tmp 49) = .pointer (some ⟨C, 0, none⟩) := h4 5 49 (by kernel_rfl) (by kernel_rfl)
    have h0 := HJ.out.not (i := 6) (by decide) (by decide) hl
    clear h0 h4 h5 hg
    unfold OpY
    go_simp
    first | exact ⟨rfl, HJ.out.put (i := 6) (by decide) (by decide) hl (fun e => absurd e (by decide)) (fun _ => hdp 5 (by kernel_rfl))⟩ | exact ⟨Or.inr rfl, HJ.out.put (i := 6) (by decide) (by decide) hl (fun e => absurd e (by decide)) (fun _ => hdp 5 (by kernel_rfl))⟩
   ·refine skJ rfl fun l w' hl hdp HJ hg ρ h1 h2 h3 h4 h5 => ?_
    have f50 : ρ (.tmp 50) = .pointer (some ⟨C, 17, none⟩) := h4 6 50 (by kernel_rfl) (by kernel_rfl)
    have f46 : ρ (.tmp 46) = .int .i64 ((q : Int)) := h4 2 46 (by kernel_rfl) (by kernel_rfl)
    have h0 := HJ.out.not (i := 7) (by decide) (by decide) hl
    clear h0 h4 h5 hg
    unfold OpY
    go_simp
    first | exact ⟨rfl, HJ.out.put (i := 7) (by decide) (by decide) hl (fun _ => hdp 6 (by kernel_rfl)) (fun e => absurd e (by decide))⟩ | exact ⟨Or.inr rfl, HJ.out.put (i := 7) (by decide) (by decide) hl (fun _ => hdp 6 (by kernel_rfl)) (fun e => absurd e (by decide))⟩
   ·refine skJ rfl fun l w' hl hdp HJ hg ρ h1 h2 h3 h4 h5 => ?_
    have f51 : ρ (.tmp 51) = .pointer (some ⟨C, 17 + q, none⟩) := h4 7 51 (by kernel_rfl) (by kernel_rfl)
    have f48 : ρ (.tmp 48) = .int .i64 (x) := h4 4 48 (by kernel_rfl) (by kernel_rfl)
    have h15 := hdp 7 (by kernel_rfl)
    have h14 := HJ.out.d1 h15
    have h13 := HJ.out.d2 h14
    have hall : ∀ z, z < 9 → z ≠ 8 → l z = true := all_of (si := 8) h13 h14 (by kernel_rfl) hdp
    obtain ⟨hw, hq⟩ := HJ.out.store (by decide) hl hall
    subst hw
    have HQ := hid hq
    have cc := (HBC.out.below (ext_drew (ext_refl _))).cell (17 + q) (cdr_x T V S { c with last := th } HQQ.out)
    have zz := (HBC.out.below (ext_drew (ext_refl _))).free (17 + q)
    have cc2 := HBC.out.cell (17 + q) (cdr_x T V S { c with last := th } HQQ.out)
    have zz2 := HBC.out.free (17 + q)
    clear hall hq h13 h14 h15 h4 h5 hg
    unfold OpY
    go_simp
    exact HQ.out
  case hdone =>
   intro W3 hJ
   have hw := hJ.fin rfl
   clear hJ
   have hb5 := (HBC.out.below (ext_drew (ext_refl _))).set (17 + q) (.int .i64 x)
   rw [set_x T V S x _ HQQ.out] at hb5
   have hb6 : Blk W3 C (cdrA T V S (knowsC c ⟨8, (th : Int), tx, (q : Int), v, x, why⟩)) 106 := by rw [hw]; exact hb5
   have ht3 : Turn [C] W W3 := by rw [hw]; exact (HT2.out.drew).setCell (Or.inl (by simp)) _
   have HB6 := hid hb6
   have HT3 := hid ht3
   clear hb5 hb6 ht3 hw
   go_wp2_with fail
   go_end0
   exact ⟨rfl, HB6.out, HT3.out⟩
 have g1 : (kind == 1) = false := by simp [k1]
 have g5 : (kind == 5) = false := by simp [k5]
 have g3 : (kind == 3) = false := by simp; omega
 have g8 : (kind == 8) = false := by simp; omega
 have f1 : decide (kind = 1) = false := by simp [k1]
 have f5 : decide (kind = 5) = false := by simp [k5]
 have f3 : decide (kind = 3) = false := by simp; omega
 have f8 : decide (kind = 8) = false := by simp; omega
 have hkn : knowsC c ⟨kind, (th : Int), tx, at_, v, x, why⟩ = { c with last := (th : Int) } := by unfold knowsC; rw [if_neg k1, if_neg k5, if_neg k38]
 rw [hkn]
 clear k1 k5 k38 hq hkn
 go_enter Tryz.func64, Tryz.ntmps64
 go_wp2_with fail
 go_end0
 exact ⟨rfl, HBC.out, HT2.out⟩
end Go.Proofs.YtnblhodhkifeeaaGreatDoor
/-
 Walk: a writer's Raw.
-/
namespace Go.Proofs.YtnblhodhkifeeaaGreatDoor
set_option linter.unusedVariables false
set_option linter.unusedSimpArgs false
open Go Go.RowKit
theorem infoU8 : (Tryz.prog.info? 5).map (fun i => (i.zero, i.size, i.bytes)) = some (some (.int .u8 0), 1, 1) := by kernel_rfl
def u8s (bs : List Nat) : List Value := bs.map fun (c : Nat) => Value.int .u8 (c : Int)
theorem u8s_app (a b : List Nat) : u8s (a ++ b) = u8s a ++ u8s b := by simp [u8s]
theorem bytesL_u8 (s : ByteArray) : bytesL s = u8s (byt s) := by simp [bytesL, u8s, byt]
theorem wpList_append_run {P : Program} {ops : Array Oper} {rest : List Oper} {o : Oper} {a : Act} {w w' : World} {Q : Exit → Act → World → Prop} (hgd : o.guard = none) (s x : Operand) (t u : TypeId) (vs vx v' : Value)
  (ho : o.op = .call { callee := .builtin .append, args := #[s, x], argTypes := #[t, u] }) (hs : a.eval s = vs) (hx : a.eval x = vx) (hrun : (Builtin.append_ #[t, u] o.type #[vs, vx]).run P w = .ok v' w') (h : wpList P ops Q rest (a.put o.dst v') w') : wpList P ops Q (o :: rest) a w :=
 wpList_plain hgd fun K hK => by
  unfold Oper.wp execOp
  simp only [ho, resolve, invoke, builtin, Sem.run_bind, Sem.run_pure, Result.andThen_ok, List.map_toArray, List.map_cons, List.map_nil, hs, hx, hrun]
  exact hK _ _ h
structure WrtO (w : World) (b : Nat) (most : Int) (bs : List Nat) (base : Nat) (v : Value) : Prop where
 blk : Blk w b #[.int .i64 most, v] 99
 own : w.ownsRow base 5 1 v bs.length (u8s bs)
 lt : b < base
theorem WrtO.wrt {w : World} {b : Nat} {most : Int} {bs : List Nat} {base : Nat} {v : Value} (h : WrtO w b most bs base v) : WrtAt w b most bs := by
 refine ⟨v, h.blk, ?_⟩
 rcases h.own.2 with ⟨h1, h2⟩ | ⟨g, cap, cur, hv, hb, hg, h3, h4, h5, h6⟩
 ·exact Or.inl ⟨h1, List.eq_nil_of_length_eq_zero h2⟩
 ·refine Or.inr ⟨g, cap, cur, hv, by have := h.lt; omega, hg, fun j hj => ?_⟩
  have : (u8s bs)[j]? = some (.int .u8 (bs[j] : Int)) := by simp [u8s, hj]
  rw [← h6, List.getElem?_take] at this
  split at this
  ·simpa using this
  ·cases this
theorem WrtO.below {w w' : World} {b : Nat} {most : Int} {bs : List Nat} {base : Nat} {v : Value} (h : WrtO w b most bs base v) (hb : Below w.heap.size w w') : WrtO w' b most bs base v :=
 ⟨h.blk.below hb, h.own.kept (row := none) ⟨hb.os, hb.tape, hb.output, hb.size, fun k hk _ => hb.block k hk⟩ (by cases v.ownBlock <;> simp), h.lt⟩
theorem drewN_hq (w : World) (n : Nat) : (w.drewN n).heap = w.heap := by
 induction n with
 | zero => rfl
 | succ n ih => exact ih
def RawP (b : Nat) (most : Int) (bs : List Nat) (base : Nat) (v : Value) (W : World) (e' : Ending) (W' : World) : Prop :=
 e' = .returned (.int .i64 0) ∧ ∃ v', WrtO W' b most bs base v' ∧ (v'.ownBlock = v.ownBlock ∨ ∃ g, v'.ownBlock = some g ∧ W.heap.size ≤ g) ∧ Turn (b :: v.ownBlock.toList) W W'
set_option maxRecDepth 100000 in
set_option maxHeartbeats 4000000 in
theorem raw_any (b : Nat) (most : Int) (bs : List Nat) (base : Nat) (v : Value) (s : ByteArray) (W : World) (h : WrtO W b most bs base v) (hs0 : 0 < s.size) (hs : s.size ≤ 1000) (hl : bs.length ≤ 16777216) (hm : 0 ≤ most ∧ most ≤ 16777216) (hfit : (s.size : Int) ≤ most - (bs.length : Int)) (hbase : base ≤ W.heap.size) :
  Calls Tryz.prog 55 #[.pointer (some ⟨b, 0, none⟩), .string s] W (RawP b most (bs ++ byt s) base v W) := by
 obtain ⟨i0, hi0, hz0, hz1, hz2⟩ := info_parts infoU8
 have HAP := hid (fun (W' : World) (hown : W'.ownsRow base 5 1 v bs.length (u8s bs)) (hb' : base ≤ W'.heap.size) => run_append_str (P := Tryz.prog) W' base 41 9 41 5 i0 _ 1 Tryz.underlying41 Tryz.underlying9 hi0 hz0 hz1 hz2 rfl v bs.length (u8s bs) hown s hs0 (by unfold maxLen; omega) (by omega) hb')
 have d0 := h.blk.cell 0 (v := .int .i64 most) rfl
 have d1 := h.blk.cell 1 (v := v) rfl
 have j1 : IntKind.i64.wrap (most - (bs.length : Int)) = most - (bs.length : Int) := IntWalk.i64_in _ (by omega)
 have j2 : decide (most - (bs.length : Int) < (s.size : Int)) = false := by rw [decide_eq_false_iff_not]; omega
 have j3 : IntKind.i64.wrap (most - 0) = most - 0 := IntWalk.i64_in _ (by omega)
 have j4 : wrap64 most = most := by unfold wrap64; omega
 have j5 : IntKind.i64.wrap most = most := IntWalk.i64_in _ (by omega)
 have hj6 : bs.length = 0 → decide (most < (s.size : Int)) = false := fun hn => by rw [decide_eq_false_iff_not]; omega
 have H := hid h
 have HB := hid hbase
 have HS0 := hid hs0
 have hform : (v = .slice none 0 0 ∧ bs.length = 0) ∨ ∃ g cap, v = .slice (some ⟨g, 0, none⟩) bs.length cap := by
  rcases h.own.2 with ⟨h1, h2⟩ | ⟨g, cap, cur, hv, -⟩
  ·exact Or.inl ⟨h1, h2⟩
  ·exact Or.inr ⟨g, cap, hv⟩
 clear h hs0 hs hl hm hfit hbase hi0 hz0 hz1 hz2
 unfold RawP
 go_enter Tryz.func55, Tryz.ntmps55
 go_wp2_with fail
 rcases hform with ⟨hv, hn⟩ | ⟨g, cap, hv⟩
 ·have HV := hid hv
  rw [hv] at d1
  have j6 := hj6 hn
  have HNN := hid hn
  clear hv hn hj6 j1 j2 j3
  go_quiet (fail)
  obtain ⟨v', w', hrun, hown', hgr, hat⟩ := HAP.out (W.drewN nq) (H.out.below (ext_drewN (ext_refl _) nq)).own (Nat.le_trans HB.out (ext_drewN (ext_refl W) nq).size)
  obtain ⟨g9, c9, rfl⟩ : ∃ g9 c9, v' = .slice (some ⟨g9, 0, none⟩) (bs.length + s.size) c9 := by
   rcases hown'.2 with ⟨-, h2⟩ | ⟨g9, c9, cur, hv9, -⟩
   ·have := HS0.out; omega
   ·exact ⟨g9, c9, hv9⟩
  rw [HV.out] at hrun
  have hbb : w'.heap[b]? = (W.drewN nq).heap[b]? := hgr.block b (Nat.lt_of_lt_of_le H.out.blk.lt (ext_drewN (ext_refl W) nq).size) (fun e => by have := (H.out.own.lt b e.symm).1; have := H.out.lt; omega)
  have hblk : Blk w' b #[.int .i64 most, v] 99 := by unfold Blk; rw [hbb]; exact (H.out.below (ext_drewN (ext_refl _) nq)).blk
  have d1' := hblk.cell 1 (v := v) rfl
  rw [HV.out] at d1'
  have z1' := hblk.free 1
  have HBLK := hid hblk
  have HOWN := hid hown'
  have HGR := hid hgr
  have HAT := hid hat
  have HRUN := hid hrun
  clear hbb hblk hown' hgr hat HAP hrun
  go_wp2_with (refine wpList_append_run rfl (.tmp 26) (.tmp 27) 41 9 _ _ (.slice (some ⟨g9, 0, none⟩) (bs.length + s.size) c9) rfl rfl rfl HRUN.out ?_)
  go_ret
  refine ⟨rfl, .slice (some ⟨g9, 0, none⟩) (bs.length + s.size) c9, ⟨HBLK.out.set 1 _, ?_, H.out.lt⟩, ?_, ?_⟩
  ·rw [List.length_append, byt_len, u8s_app, ← bytesL_u8]
   refine HOWN.out.kept (row := some b) ⟨rfl, rfl, rfl, by simp [World.setCell], fun k hk hne => Below.heap_setCell _ _ _ _ (fun hh => hne (by rw [hh]))⟩ (Or.inr fun hh => ?_)
   have := (HOWN.out.lt b hh).1
   have := H.out.lt
   omega
  ·rcases HAT.out with e | e
   ·exact Or.inl e
   ·exact Or.inr ⟨_, e, by rw [show (W.drewN nq).heap.size = W.heap.size by rw [drewN_hq]]; exact Nat.le_refl _⟩
  ·have hT : Turn (b :: v.ownBlock.toList) W w' := by
    have h1 : Turn (b :: v.ownBlock.toList) W (W.drewN nq) := (Turn.refl _ W).drewN nq
    refine h1.trans ⟨HGR.out.os, HGR.out.tape, HGR.out.output, HGR.out.size, fun k hk hn => HGR.out.block k hk (fun e => hn (List.mem_cons_of_mem _ (by rw [← e]; simp)))⟩
   exact hT.setCell (Or.inl (by simp)) _
 ·have HV := hid hv
  rw [hv] at d1
  clear hv hj6 j4 j5
  go_quiet (fail)
  obtain ⟨v', w', hrun, hown', hgr, hat⟩ := HAP.out (W.drewN nq) (H.out.below (ext_drewN (ext_refl _) nq)).own (Nat.le_trans HB.out (ext_drewN (ext_refl W) nq).size)
  obtain ⟨g9, c9, rfl⟩ : ∃ g9 c9, v' = .slice (some ⟨g9, 0, none⟩) (bs.length + s.size) c9 := by
   rcases hown'.2 with ⟨-, h2⟩ | ⟨g9, c9, cur, hv9, -⟩
   ·have := HS0.out; omega
   ·exact ⟨g9, c9, hv9⟩
  rw [HV.out] at hrun
  have hbb : w'.heap[b]? = (W.drewN nq).heap[b]? := hgr.block b (Nat.lt_of_lt_of_le H.out.blk.lt (ext_drewN (ext_refl W) nq).size) (fun e => by have := (H.out.own.lt b e.symm).1; have := H.out.lt; omega)
  have hblk : Blk w' b #[.int .i64 most, v] 99 := by unfold Blk; rw [hbb]; exact (H.out.below (ext_drewN (ext_refl _) nq)).blk
  have d1' := hblk.cell 1 (v := v) rfl
  rw [HV.out] at d1'
  have z1' := hblk.free 1
  have HBLK := hid hblk
  have HOWN := hid hown'
  have HGR := hid hgr
  have HAT := hid hat
  have HRUN := hid hrun
  clear hbb hblk hown' hgr hat HAP hrun
  go_wp2_with (refine wpList_append_run rfl (.tmp 26) (.tmp 27) 41 9 _ _ (.slice (some ⟨g9, 0, none⟩) (bs.length + s.size) c9) rfl rfl rfl HRUN.out ?_)
  go_ret
  refine ⟨rfl, .slice (some ⟨g9, 0, none⟩) (bs.length + s.size) c9, ⟨HBLK.out.set 1 _, ?_, H.out.lt⟩, ?_, ?_⟩
  ·rw [List.length_append, byt_len, u8s_app, ← bytesL_u8]
   refine HOWN.out.kept (row := some b) ⟨rfl, rfl, rfl, by simp [World.setCell], fun k hk hne => Below.heap_setCell _ _ _ _ (fun hh => hne (by rw [hh]))⟩ (Or.inr fun hh => ?_)
   have := (HOWN.out.lt b hh).1
   have := H.out.lt
   omega
  ·rcases HAT.out with e | e
   ·exact Or.inl e
   ·exact Or.inr ⟨_, e, by rw [show (W.drewN nq).heap.size = W.heap.size by rw [drewN_hq]]; exact Nat.le_refl _⟩
  ·have hT : Turn (b :: v.ownBlock.toList) W w' := by
    have h1 : Turn (b :: v.ownBlock.toList) W (W.drewN nq) := (Turn.refl _ W).drewN nq
    refine h1.trans ⟨HGR.out.os, HGR.out.tape, HGR.out.output, HGR.out.size, fun k hk hn => HGR.out.block k hk (fun e => hn (List.mem_cons_of_mem _ (by rw [← e]; simp)))⟩
   exact hT.setCell (Or.inl (by simp)) _
end Go.Proofs.YtnblhodhkifeeaaGreatDoor
/-
 Walk: (*Coder).Write.
-/
namespace Go.Proofs.YtnblhodhkifeeaaGreatDoor
set_option linter.unusedVariables false
set_option linter.unusedSimpArgs false
open Go Go.RowKit
theorem w_meth {T V S : Int} {c : Cdr} {kind tx at_ v x why : Int} {th : Nat} (s : List Nat) (hc : OkC T c) (ht : tellsC T V S c ⟨kind, (th : Int), tx, at_, v, x, why⟩ = true) : MethOk wCl WPx V S c kind th tx at_ v x why s := by
 unfold tellsC at ht
 rw [Bool.and_eq_true] at ht
 obtain ⟨hm, hk2⟩ := ht
 obtain ⟨hs, ⟨k1, k2, hw, t1, t2, x1, x2, v1, v2, a1, a2⟩, hb⟩ := may_sizes' hm
 have hl : 0 ≤ leastV ⟨kind, (th : Int), tx, at_, v, x, why⟩ := by unfold leastV; split <;> omega
 have hp : placesE ⟨kind, (th : Int), tx, at_, v, x, why⟩ V S ≤ V := by
  unfold placesE
  split
  ·exact Int.le_refl _
  ·split <;> omega
 have hcl := hc.clock
 have hbg := hc.begun th
 unfold maxClockN at hcl hbg
 dsimp only at *
 have hwy : 0 ≤ why ∧ why ≤ 255 := by
  by_cases h10 : kind = 10
  ·have := hw h10; omega
  ·have : why = 0 := by
    have h := congrArg Ev.why hb
    unfold bareE at h
    dsimp only at h
    repeat' split at h
    all_goals (first | exact h | omega | (exfalso; omega))
   omega
 unfold WPx
 refine ⟨by omega, hcl, hbg, hwy, fun h => ?_, fun h => ?_, fun h => ?_, fun h => ?_, fun h => ?_, fun h => ?_, fun h => ?_⟩
 ·subst h; simp at hk2; omega
 ·subst h; simp at hk2; omega
 ·refine ⟨by omega, at_.toNat, ?_, by omega⟩
  show at_ = _
  omega
 ·omega
 ·subst h; simp at hk2; omega
 ·omega
 ·have := hw h
  refine ⟨by omega, by omega, ?_⟩
  show why - 1 ≤ 5
  omega
theorem own_turn {w w' : World} {l : List Nat} {base : Nat} {e : TypeId} {size : Nat} {v : Value} {n : Nat} {xs : List Value} (h : w.ownsRow base e size v n xs) (ht : Turn l w w') (hn : ∀ g, v.ownBlock = some g → g ∉ l) : w'.ownsRow base e size v n xs := by
 refine ⟨h.1, ?_⟩
 rcases h.2 with hh | ⟨g, cap, cur, rfl, hb, hgg, rest⟩
 ·exact .inl hh
 ·refine .inr ⟨g, cap, cur, rfl, hb, ?_, rest⟩
  rw [ht.block g (Array.getElem?_eq_some_iff.1 hgg).1 (hn g rfl)]
  exact hgg
theorem WrtO.turn {w w' : World} {l : List Nat} {b : Nat} {most : Int} {bs : List Nat} {base : Nat} {v : Value} (h : WrtO w b most bs base v) (ht : Turn l w w') (hb : b ∉ l) (hn : ∀ g, v.ownBlock = some g → g ∉ l) : WrtO w' b most bs base v :=
 ⟨ht.blk hb h.blk, own_turn h.own ht hn, h.lt⟩
theorem w_ats {T V S : Int} {c : Cdr} {kind tx at_ v x why : Int} {th : Nat} (ht : tellsC T V S c ⟨kind, (th : Int), tx, at_, v, x, why⟩ = true) : th < 6 ∧ at_ = (at_.toNat : Int) ∧ (kind = 3 ∨ kind = 8 → at_.toNat < 32) := by
 unfold tellsC at ht
 rw [Bool.and_eq_true] at ht
 obtain ⟨hm, hk2⟩ := ht
 obtain ⟨hs, ⟨k1, k2, hw, t1, t2, x1, x2, v1, v2, a1, a2⟩, hb⟩ := may_sizes' hm
 have : placesE ⟨kind, (th : Int), tx, at_, v, x, why⟩ V S ≤ 32 := by
  unfold placesE
  split
  ·omega
  ·split <;> omega
 dsimp only at *
 refine ⟨by omega, by omega, fun _ => by omega⟩
def WriteP (T V S : Int) (c' : Cdr) (C b : Nat) (most : Int) (bs : List Nat) (base : Nat) (u : Value) (W : World) (e' : Ending) (W' : World) : Prop :=
 e' = .returned (.int .i64 0) ∧ Blk W' C (cdrA T V S c') 106 ∧ ∃ u', WrtO W' b most bs base u' ∧ (u'.ownBlock = u.ownBlock ∨ ∃ g, u'.ownBlock = some g ∧ W.heap.size ≤ g) ∧ Turn (C :: b :: u.ownBlock.toList) W W'
set_option maxRecDepth 100000 in
set_option maxHeartbeats 4000000 in
theorem write_yes (T V S : Int) (c : Cdr) (kind tx at_ v x why : Int) (th : Nat) (C b : Nat) (most : Int) (bs : List Nat) (base : Nat) (u : Value) (W : World) (hok : EvOk ⟨kind, (th : Int), tx, at_, v, x, why⟩) (hC : Blk W C (cdrA T V S c) 106) (hKd : KindsAt W) (hT : 1 ≤ T ∧ T ≤ 6) (hV : 1 ≤ V ∧ V ≤ 32) (hS : 1 ≤ S ∧ S ≤ 32)
  (hc : OkC T c) (ht : tellsC T V S c ⟨kind, (th : Int), tx, at_, v, x, why⟩ = true) (hw : WrtO W b most bs base u) (hCb : C ≠ b) (hCo : ∀ g, u.ownBlock = some g → g ≠ C) (hbase : base ≤ W.heap.size) (hl : bs.length ≤ 16777216) (hm : 0 ≤ most ∧ most ≤ 16777216) (hfit : (bs.length : Int) + 12 ≤ most) :
  Calls Tryz.prog 26 #[.pointer (some ⟨C, 0, none⟩), .pointer (some ⟨b, 0, none⟩), evA ⟨kind, (th : Int), tx, at_, v, x, why⟩] W (WriteP T V S (knowsC c ⟨kind, (th : Int), tx, at_, v, x, why⟩) C b most (bs ++ bytesC T c ⟨kind, (th : Int), tx, at_, v, x, why⟩) base u W) := by
 have HTELL := hid (fun W' (h : Below W.heap.size W W') => tells_any T V S c kind tx at_ v x why th C W' hok (hC.below h) (hKd.below h) hT hV hS)
 rw [ht] at HTELL
 have hbe := Blk.new W #[.int .u8 kind, .int .i64 (th : Int), .int .i64 tx, .int .i64 at_, .int .i64 v, .int .i64 x, .int .u8 why] 50
 have HBE := hid hbe
 have f0 := hbe.cell 0 (v := .int .u8 kind) rfl
 have HLOW : Hid (Below W.heap.size W (W.alloc (.cells #[.int .u8 kind, .int .i64 (th : Int), .int .i64 tx, .int .i64 at_, .int .i64 v, .int .i64 x, .int .u8 why] 50))) := hid (ext_alloc (ext_refl _) _)
 have HT := hid ht
 have HCC := hid hC
 have HC0 := hid hc
 have HW := hid hw
 have HM := hid hm
 have HFIT := hid hfit
 have HLL := hid hl
 have HSZ := hid (show C < W.heap.size ∧ base ≤ W.heap.size ∧ b < base ∧ C ≠ b from ⟨HCC.out.lt, hbase, hw.lt, hCb⟩)
 have HCO := hid hCo
 have HOK := hid hok
 have HTV := hid (show (1 ≤ T ∧ T ≤ 6) ∧ (1 ≤ V ∧ V ≤ 32) ∧ (1 ≤ S ∧ S ≤ 32) from ⟨hT, hV, hS⟩)
 dsimp only [evA] at HTELL ⊢
 clear hbe f0 ht hC hc hw hm hfit hl hCo hbase hCb hok hT hV hS
 obtain ⟨Q, hQ⟩ : ∃ Q, Q = WriteP T V S (knowsC c ⟨kind, (th : Int), tx, at_, v, x, why⟩) C b most (bs ++ bytesC T c ⟨kind, (th : Int), tx, at_, v, x, why⟩) base u W := ⟨_, rfl⟩
 rw [← hQ]
 have HQ := hid hQ
 clear hQ
 go_enter Tryz.func26, Tryz.ntmps26
 go_wp2_with fail
 refine (HTELL.out _ HLOW.out).mono ?_
 rintro e' W2 ⟨rfl, hb2⟩
 have hbe2 := HBE.out.below hb2
 have e0 := hbe2.cell 0 (v := .int .u8 kind) rfl
 have e1 := hbe2.cell 1 (v := .int .i64 (th : Int)) rfl
 have e2 := hbe2.cell 2 (v := .int .i64 tx) rfl
 have e3 := hbe2.cell 3 (v := .int .i64 at_) rfl
 have e4 := hbe2.cell 4 (v := .int .i64 v) rfl
 have e5 := hbe2.cell 5 (v := .int .i64 x) rfl
 have e6 := hbe2.cell 6 (v := .int .u8 why) rfl
 have HBE2 := hid hbe2
 have HB2 := hid (ext_trans HLOW.out hb2)
 have HB2' := hid hb2
 have x0 := cell_alloc (x := .cells #[.string ⟨#[]⟩] 9) e0
 have x1 := cell_alloc (x := .cells #[.string ⟨#[]⟩] 9) e1
 have x2 := cell_alloc (x := .cells #[.string ⟨#[]⟩] 9) e2
 have x3 := cell_alloc (x := .cells #[.string ⟨#[]⟩] 9) e3
 have x4 := cell_alloc (x := .cells #[.string ⟨#[]⟩] 9) e4
 have x5 := cell_alloc (x := .cells #[.string ⟨#[]⟩] 9) e5
 have x6 := cell_alloc (x := .cells #[.string ⟨#[]⟩] 9) e6
 clear e0 e1 e2 e3 e4 e5 e6 hbe2 hb2 HTELL
 obtain ⟨W3, hW3⟩ : ∃ W3, W3 = (W2.alloc (.cells #[.string ⟨#[]⟩] 9)).alloc (.cells (lineA C ⟨kind, (th : Int), tx, at_, v, x, why⟩ .nilFunc .nilFunc (clo 59 #[])) 111) := ⟨_, rfl⟩
 have hL3 : Blk W3 (W2.heap.size + 1) (lineA C ⟨kind, (th : Int), tx, at_, v, x, why⟩ .nilFunc .nilFunc (clo 59 #[])) 111 := by rw [hW3]; exact Blk.new' _ _ _ (by (first | exact Array.size_push _ | exact (Array.size_push _).symm))
 have hS3 : Blk W3 W2.heap.size #[.string ⟨#[]⟩] 9 := by rw [hW3]; exact (Blk.new W2 #[.string ⟨#[]⟩] 9).below (ext_alloc (ext_refl _) _)
 have hB3 : Below W2.heap.size W2 W3 := by rw [hW3]; exact ext_alloc (ext_alloc (ext_refl _) _) _
 have HS3 := hid hS3
 have HB3 := hid hB3
 have HL3 := hid hL3
 have p8 := hL3.cell 8 (v := .nilFunc) rfl
 have z8 := hL3.free 8
 have hL4 := hL3.set 8 (clo 60 #[.pointer (some ⟨W2.heap.size, 0, none⟩)])
 have p9 := hL4.cell 9 (v := .nilFunc) rfl
 have z9 := hL4.free 9
 clear hL3 hS3 hB3 hL4
 unfold lineA at hW3
 unfold clo at hW3 p9 z9
 have HW3 := hid hW3
 clear hW3
 go_wp2_with (rw [← HW3.out]; go_simp)
 clear p8 z8 p9 z9 x0 x1 x2 x3 x4 x5 x6
 obtain ⟨W5, hW5⟩ : ∃ W5, W5 = (W3.setCell ⟨W2.heap.size + 1, 8, none⟩ (clo 60 #[.pointer (some ⟨W2.heap.size, 0, none⟩)])).setCell ⟨W2.heap.size + 1, 9, none⟩ (clo 61 #[.pointer (some ⟨W2.heap.size, 0, none⟩)]) := ⟨_, rfl⟩
 have hL5 : Blk W5 (W2.heap.size + 1) (lineA C ⟨kind, (th : Int), tx, at_, v, x, why⟩ (clo 60 #[.pointer (some ⟨W2.heap.size, 0, none⟩)]) (clo 61 #[.pointer (some ⟨W2.heap.size, 0, none⟩)]) (clo 59 #[])) 111 := by rw [hW5]; exact (HL3.out.set 8 _).set 9 _
 have hS5 : Blk W5 W2.heap.size #[.string ⟨#[]⟩] 9 := by rw [hW5]; exact (HS3.out.set_other _ _ (by show W2.heap.size ≠ W2.heap.size + 1; omega)).set_other _ _ (by show W2.heap.size ≠ W2.heap.size + 1; omega)
 have hB5 : Below W2.heap.size W2 W5 := by rw [hW5]; exact (HB3.out.setCell (p := ⟨W2.heap.size + 1, 8, none⟩) (by show W2.heap.size ≤ W2.heap.size + 1; omega) _).setCell (p := ⟨W2.heap.size + 1, 9, none⟩) (by show W2.heap.size ≤ W2.heap.size + 1; omega) _
 have hW5' := hW5
 unfold clo at hW5'
 rw [← hW5']
 clear hW5 hW5' HW3 HL3 HS3 HB3
 obtain ⟨sb, hsb⟩ : ∃ sb, sb = W2.heap.size := ⟨_, rfl⟩
 have hB25 := ext_trans HB2.out hB5
 have hC5 := HCC.out.below hB25
 have hok2 := HOK.out
 have ht1 := HT.out
 unfold tellsC at ht1
 rw [Bool.and_eq_true] at ht1
 obtain ⟨hm1, hm2⟩ := ht1
 obtain ⟨hs, ⟨k1, k2, hw, t1, t2, xx1, xx2, v1, v2, a1, a2⟩, hbb⟩ := may_sizes' hm1
 obtain ⟨f1, f2, f3, f4⟩ := first_ok (T := T) (k := kind) (th := (th : Int)) (last := c.last) ⟨hs.1, hs.2.1⟩ ⟨k1, k2⟩ ⟨t1, t2⟩ HC0.out.last
 have OV := over_any (wClOk W2.heap.size) T V S c kind tx at_ v x why th [] (W2.heap.size + 1) C W5 hL5 hC5 ⟨⟨#[]⟩, rfl, hS5⟩ (by simp) (by have := HSZ.out; have := HB2.out.size; simp; omega) (by have := HSZ.out; have := HB2.out.size; omega) (by unfold WOk; simp) HTV.out.1 HTV.out.2.1 HTV.out.2.2 ⟨k1, k2⟩ t2 HC0.out.last (by intro k hk; simp at hk; rw [hk]; exact hS5.lt) (by unfold WPx; omega) ⟨f1, f2⟩ (fun t' h1 h2 => by
  dsimp only [wCl] at h1 ⊢
  rw [f3]
  rw [f4] at h1
  have : t' = th := by omega
  subst this
  exact w_meth _ HC0.out HT.out)
 rw [line_write HC0.out HT.out hok2.2.2.2.2.2.1] at OV
 obtain ⟨bl1, bl2⟩ := bytes_len (V := V) (S := S) HC0.out HT.out
 have HBL := hid (show 1 ≤ (bytesC T c ⟨kind, (th : Int), tx, at_, v, x, why⟩).length ∧ (bytesC T c ⟨kind, (th : Int), tx, at_, v, x, why⟩).length ≤ 12 from ⟨bl1, bl2⟩)
 have HAT := hid (w_ats HT.out)
 have HB25 := hid hB25
 have HSL := hid hS5.lt
 have HLS := hid (show W2.heap.size + 1 < W5.heap.size from hL5.lt)
 have HB5 := hid hB5
 have HOV := hid OV
 clear OV hB25 hB5 hL5 hS5 hC5 hok2 hm1 hm2 hs k1 k2 hw t1 t2 xx1 xx2 v1 v2 a1 a2 hbb f1 f2 f3 f4 bl1 bl2 hsb
 refine HOV.out.mono ?_
 rintro e' W6 ⟨rfl, ⟨Z, hZ, hBZ⟩, hT6, -⟩
 clear HOV
 have hB56 : Below W2.heap.size W5 W6 := hT6.below (by intro k hk; simp at hk; omega) (by have := HSL.out; omega)
 have hB6 : Below W.heap.size W W6 := ext_trans HB2.out (HB5.out.trans hB56)
 have hz0 := hBZ.cell 0 (v := .string Z) rfl
 have hZl : Z.size = (bytesC T c ⟨kind, (th : Int), tx, at_, v, x, why⟩).length := by rw [← byt_len, hZ]; rfl
 have RAW := raw_any b most bs base u Z W6 (HW.out.below hB6) (by have := HBL.out; omega) (by have := HBL.out; omega) HLL.out HM.out (by have := HBL.out; have := HFIT.out; omega) (by have := HSZ.out; have := hB6.size; omega)
 have HRAW := hid RAW
 have HZ := hid hZ
 have HB6 := hid hB6
 have HBE6 := hid (HBE2.out.below (ext_trans (Below.refl _ _) (HB5.out.trans hB56)))
 clear RAW hZ hB6 hB56 hT6 hBZ hZl HB5 HSL HLS HB25 HBL HFIT HM HLL HBE2
 go_wp2_with fail
 refine HRAW.out.mono ?_
 rintro e' W7 ⟨rfl, u', hwr, hown, hT7⟩
 have hnw : ∀ k, k < base → k ≠ b → k ∉ b :: u.ownBlock.toList := by
  intro k hk hkb hm
  rcases List.mem_cons.1 hm with e | e
  ·exact hkb e
  ·have := (HW.out.own.lt k (by simpa using e)).1
   omega
 have hbe7 := hT7.blk (by
  intro hm
  have hs := HSZ.out
  rcases List.mem_cons.1 hm with e | e
  ·omega
  ·have := (HW.out.own.lt _ (by simpa using e)).2
   omega) HBE6.out
 have e0 := hbe7.cell 0 (v := .int .u8 kind) rfl
 have e1 := hbe7.cell 1 (v := .int .i64 (th : Int)) rfl
 have e2 := hbe7.cell 2 (v := .int .i64 tx) rfl
 have e3 := hbe7.cell 3 (v := .int .i64 at_) rfl
 have e4 := hbe7.cell 4 (v := .int .i64 v) rfl
 have e5 := hbe7.cell 5 (v := .int .i64 x) rfl
 have e6 := hbe7.cell 6 (v := .int .u8 why) rfl
 have hC7 := hT7.blk (k := C) (by
  intro hm
  rcases List.mem_cons.1 hm with e | e
  ·exact HSZ.out.2.2.2 e
  ·exact HCO.out C (by simpa using e) rfl) (HCC.out.below HB6.out)
 have HKN := hid (knows_any T V S c kind tx at_ v x why th at_.toNat C W7 hC7 HAT.out.1 HAT.out.2.1 HAT.out.2.2)
 have HWR := hid hwr
 have HOWN := hid hown
 have HT7 := hid hT7
 clear hnw hC7 hbe7 hwr hown hT7
 go_wp2_with fail
 refine HKN.out.mono ?_
 rintro e' W8 ⟨rfl, hC8, hT8⟩
 go_wp2_with fail
 rw [HQ.out]
 have hZb := HZ.out
 rw [List.nil_append] at hZb
 rw [hZb] at HWR
 have hb78 : W.heap.size ≤ W6.heap.size := HB6.out.size
 refine ⟨rfl, hC8, u', HWR.out.turn hT8 (by have := HSZ.out; simp; omega) (fun g hg => by
  have hs := HSZ.out
  simp only [List.mem_singleton]
  rcases HOWN.out with e | ⟨g', hg', h⟩
  ·exact HCO.out g (by rw [← e]; exact hg)
  ·rw [hg] at hg'; cases hg'; omega), ?_, ?_⟩
 ·rcases HOWN.out with e | ⟨g, hg, h⟩
  ·exact Or.inl e
  ·exact Or.inr ⟨g, hg, by omega⟩
 ·exact ((Turn.of_below HB6.out).trans (HT7.out.mono (by simp; intro a h; exact Or.inr (Or.inr h)))).trans (hT8.mono (by simp))
end Go.Proofs.YtnblhodhkifeeaaGreatDoor
/-
 Walk: (*Coder).tells and (*Coder).Write of any event; New.
-/
namespace Go.Proofs.YtnblhodhkifeeaaGreatDoor
set_option linter.unusedVariables false
set_option linter.unusedSimpArgs false
open Go Go.RowKit
theorem may_wait (T V S : Int) : mayE ⟨12, 0, 0, 0, 0, 0, 0⟩ T V S = sizesB T V S := by
 unfold mayE
 cases h : sizesB T V S with
 | false => rfl
 | true =>
  unfold sizesB at h
  simp at h
  simp [leastV, placesE, bareE]
  omega
set_option maxRecDepth 100000 in
set_option maxHeartbeats 4000000 in
theorem new_any (T V S : Int) (W : World) (hKd : KindsAt W) (hok : sizesB T V S = true) :
  Calls Tryz.prog 25 #[.int .i64 T, .int .i64 V, .int .i64 S] W fun e' W' => ∃ C, e' = .returned (.tuple #[.pointer (some ⟨C, 0, none⟩), .int .i64 0]) ∧ W.heap.size ≤ C ∧ Blk W' C (cdrA T V S newC) 106 ∧ Below W.heap.size W W' := by
 have HMAY := hid (fun W' (h : Below W.heap.size W W') => may_any ⟨12, 0, 0, 0, 0, 0, 0⟩ T V S W' (by unfold EvOk; dsimp only; omega) (hKd.below h))
 rw [may_wait, hok] at HMAY
 dsimp only [evA] at HMAY
 clear hok
 obtain ⟨Q, hQ⟩ : ∃ Q : Ending → World → Prop, Q = fun e' W' => ∃ C, e' = .returned (.tuple #[.pointer (some ⟨C, 0, none⟩), .int .i64 0]) ∧ W.heap.size ≤ C ∧ Blk W' C (cdrA T V S newC) 106 ∧ Below W.heap.size W W' := ⟨_, rfl⟩
 rw [← hQ]
 have HQ := hid hQ
 clear hQ
 go_enter Tryz.func25, Tryz.ntmps25
 go_wp2_with fail
 refine (HMAY.out W (Below.refl _ _)).mono ?_
 rintro e' W1 ⟨rfl, hb1⟩
 have HB1 := hid hb1
 clear hb1
 go_wp2_with fail
 rw [HQ.out]
 exact ⟨W1.heap.size, rfl, HB1.out.size, Blk.new _ _ _, ext_alloc HB1.out _⟩
set_option maxRecDepth 100000 in
set_option maxHeartbeats 4000000 in
theorem new_bad' (T V S : Int) (W : World) (hKd : KindsAt W) (hok : sizesB T V S = false) :
  Calls Tryz.prog 25 #[.int .i64 T, .int .i64 V, .int .i64 S] W fun e' W' => e' = .returned (.tuple #[.pointer none, .int .i64 1]) ∧ Below W.heap.size W W' := by
 have HMAY := hid (fun W' (h : Below W.heap.size W W') => may_any ⟨12, 0, 0, 0, 0, 0, 0⟩ T V S W' (by unfold EvOk; dsimp only; omega) (hKd.below h))
 rw [may_wait, hok] at HMAY
 dsimp only [evA] at HMAY
 clear hok
 obtain ⟨Q, hQ⟩ : ∃ Q : Ending → World → Prop, Q = fun e' W' => e' = .returned (.tuple #[.pointer none, .int .i64 1]) ∧ Below W.heap.size W W' := ⟨_, rfl⟩
 rw [← hQ]
 have HQ := hid hQ
 clear hQ
 go_enter Tryz.func25, Tryz.ntmps25
 go_wp2_with fail
 refine (HMAY.out W (Below.refl _ _)).mono ?_
 rintro e' W1 ⟨rfl, hb1⟩
 go_wp2_with fail
 rw [HQ.out]
 exact ⟨rfl, hb1⟩
end Go.Proofs.YtnblhodhkifeeaaGreatDoor
/-
 Walk: awake.
-/
namespace Go.Proofs.YtnblhodhkifeeaaGreatDoor
set_option linter.unusedVariables false
set_option linter.unusedSimpArgs false
open Go Go.RowKit
theorem write_is {T V S : Int} {c : Cdr} {e : Ev} (C b : Nat) (most : Int) (bs : List Nat) (base : Nat) (u : Value) (W : World) (hok : EvOk e) (hC : Blk W C (cdrA T V S c) 106) (hKd : KindsAt W) (hT : 1 ≤ T ∧ T ≤ 6) (hV : 1 ≤ V ∧ V ≤ 32) (hS : 1 ≤ S ∧ S ≤ 32)
  (hc : OkC T c) (ht : tellsC T V S c e = true) (hw : WrtO W b most bs base u) (hCb : C ≠ b) (hCo : ∀ g, u.ownBlock = some g → g ≠ C) (hbase : base ≤ W.heap.size) (hl : bs.length ≤ 16777216) (hm : 0 ≤ most ∧ most ≤ 16777216) (hfit : (bs.length : Int) + 12 ≤ most) :
  Calls Tryz.prog 26 #[.pointer (some ⟨C, 0, none⟩), .pointer (some ⟨b, 0, none⟩), evA e] W (WriteP T V S (knowsC c e) C b most (bs ++ bytesC T c e) base u W) := by
 have ht' := ht
 unfold tellsC at ht'
 rw [Bool.and_eq_true] at ht'
 obtain ⟨hs, ⟨k1, k2, hw', t1, t2, -⟩, -⟩ := may_sizes' ht'.1
 obtain ⟨kind, th, tx, at_, v, x, why⟩ := e
 dsimp only at t1
 obtain ⟨n, rfl⟩ := Int.eq_ofNat_of_zero_le t1
 exact write_yes T V S c kind tx at_ v x why n C b most bs base u W hok hC hKd hT hV hS hc ht hw hCb hCo hbase hl hm hfit
theorem WrtO.new {W : World} {b : Nat} {m : Int} (h : Blk W b #[.int .i64 m, .slice none 0 0] 99) : WrtO W b m [] (b + 1) (.slice none 0 0) :=
 ⟨h, World.ownsRow_nil _ _ _ _, by omega⟩
structure Wd (T V S : Int) (c : Cdr) (C b : Nat) (most : Int) (bs : List Nat) (base : Nat) (u : Value) (W : World) : Prop where
 co : Blk W C (cdrA T V S c) 106
 wr : WrtO W b most bs base u
 ok : OkC T c
 sz : (1 ≤ T ∧ T ≤ 6) ∧ (1 ≤ V ∧ V ≤ 32) ∧ (1 ≤ S ∧ S ≤ 32)
 ne : C ≠ b
 co2 : ∀ g, u.ownBlock = some g → g ≠ C
 le : base ≤ W.heap.size
 mo : 0 ≤ most ∧ most ≤ 16777216
theorem Wd.turn {T V S : Int} {c : Cdr} {C b : Nat} {most : Int} {bs : List Nat} {base : Nat} {u : Value} {l : List Nat} {W W' : World} (h : Wd T V S c C b most bs base u W) (ht : Turn l W W') (h1 : C ∉ l) (h2 : b ∉ l) (h3 : ∀ g, u.ownBlock = some g → g ∉ l) : Wd T V S c C b most bs base u W' :=
 ⟨ht.blk h1 h.co, h.wr.turn ht h2 h3, h.ok, h.sz, h.ne, h.co2, Nat.le_trans h.le ht.size, h.mo⟩
theorem Wd.below {T V S : Int} {c : Cdr} {C b : Nat} {most : Int} {bs : List Nat} {base : Nat} {u : Value} {W W' : World} (h : Wd T V S c C b most bs base u W) (hb : Below W.heap.size W W') : Wd T V S c C b most bs base u W' :=
 h.turn (Turn.of_below (l := []) hb) (by simp) (by simp) (by simp)
theorem Wd.low {T V S : Int} {c : Cdr} {C b : Nat} {most : Int} {bs : List Nat} {base : Nat} {u : Value} {W W' : World} (h : Wd T V S c C b most bs base u W) (ht : Turn (C :: b :: u.ownBlock.toList) W W') {B : Nat} (h1 : B ≤ C) (h2 : B ≤ b) : Below B W W' := by
 refine ht.below (fun x hx => ?_) (by have := h.co.lt; omega)
 rcases List.mem_cons.1 hx with e | hx
 ·omega
 rcases List.mem_cons.1 hx with e | hx
 ·omega
 have := (h.wr.own.lt x (by simpa using hx)).1
 have := h.wr.lt
 omega
def WrYes (T V S : Int) (c : Cdr) (e : Ev) (C b : Nat) (most : Int) (bs : List Nat) (base : Nat) (u : Value) (W : World) (e' : Ending) (W' : World) : Prop :=
 e' = .returned (.int .i64 0) ∧ ∃ u', Wd T V S (knowsC c e) C b most (bs ++ bytesC T c e) base u' W' ∧ (u'.ownBlock = u.ownBlock ∨ ∃ g, u'.ownBlock = some g ∧ W.heap.size ≤ g) ∧ Turn (C :: b :: u.ownBlock.toList) W W'
theorem wr_yes {T V S : Int} {c : Cdr} {C b : Nat} {most : Int} {bs : List Nat} {base : Nat} {u : Value} {W : World} (h : Wd T V S c C b most bs base u W) (hKd : KindsAt W) {e : Ev} (hok : EvOk e) (ht : tellsC T V S c e = true) (hl : bs.length ≤ 16777216) (hfit : (bs.length : Int) + 12 ≤ most) :
  Calls Tryz.prog 26 #[.pointer (some ⟨C, 0, none⟩), .pointer (some ⟨b, 0, none⟩), evA e] W (WrYes T V S c e C b most bs base u W) := by
 refine (write_is C b most bs base u W hok h.co hKd h.sz.1 h.sz.2.1 h.sz.2.2 h.ok ht h.wr h.ne h.co2 h.le hl h.mo hfit).mono fun e' W' hh => ?_
 obtain ⟨r, hc, u', hw, hu, hT⟩ := hh
 exact ⟨r, u', ⟨hc, hw, okC_knows h.ok ht hok.2.2.2.2.2.1, h.sz, h.ne, fun g hg => (by
  rcases hu with e | ⟨g', e, hg'⟩
  ·exact h.co2 g (by rw [← e]; exact hg)
  ·rw [hg] at e; cases e; have := h.co.lt; omega), Nat.le_trans h.le hT.size, h.mo⟩, hu, hT⟩
end Go.Proofs.YtnblhodhkifeeaaGreatDoor
/-
 The reader's closures are as a line asks.
-/
namespace Go.Proofs.YtnblhodhkifeeaaGreatDoor
set_option linter.unusedVariables false
set_option linter.unusedSimpArgs false
open Go Go.RowKit
structure RAt (s : ByteArray) (x b p : Nat) (q : Rdr × Nat) (W : World) : Prop where
 rd : RdrAt W b s q.1.at_ q.1.err
 vx : Blk W x #[.pointer (some ⟨b, 0, none⟩)] 63
 vp : Blk W p #[.int .i64 (q.2 : Int)] 3
 ok : RdOk s q.1
 le : q.2 ≤ q.1.at_
set_option maxRecDepth 100000 in
set_option maxHeartbeats 4000000 in
theorem rc1_any (s : ByteArray) (x b p : Nat) (q : Rdr × Nat) (y most : Int) (W : World) (h : RAt s x b p q W) (hs : s.size ≤ 16777216) (hx : x ≠ b) (hxp : x ≠ p) (hbp : b ≠ p) (hm : 0 ≤ most ∧ most ≤ 4398046511104) :
  Calls Tryz.prog 126 #[.int .i64 y, .int .i64 most, .pointer (some ⟨x, 0, none⟩), .pointer (some ⟨p, 0, none⟩)] W fun e' W' => e' = .returned (.int .i64 ((numR q.1 most.toNat).1 : Int)) ∧ RAt s x b p ((numR q.1 most.toNat).2, q.1.at_) W' ∧ Turn [x, b, p] W W' := by
 obtain ⟨⟨rs, ra, re⟩, pl⟩ := q
 obtain ⟨hrd, hvx, hvp, ⟨hok1, hok2⟩, hle⟩ := h
 dsimp only at *
 subst hok1
 have HAT := hid (rAt_any b s ra re W hrd)
 have cx := hvx.cell 0 (v := .pointer (some ⟨b, 0, none⟩)) rfl
 have cp := hvp.cell 0 (v := .int .i64 (pl : Int)) rfl
 have zp := hvp.free 0
 have hrd2 : RdrAt (W.setCell ⟨p, 0, none⟩ (.int .i64 (ra : Int))) b s ra re := Blk.set_other hrd _ _ (by show b ≠ p; exact hbp)
 have hvx2 := hvx.set_other ⟨p, 0, none⟩ (.int .i64 (ra : Int)) (by show x ≠ p; exact hxp)
 have hvp2 := hvp.set 0 (.int .i64 (ra : Int))
 have cx2 := hvx2.cell 0 (v := .pointer (some ⟨b, 0, none⟩)) rfl
 have hmn : (most.toNat : Int) = most := by omega
 have j1 : IntKind.u64.wrap most = most := by simp [IntKind.wrap, IntKind.signed, IntKind.bits]; omega
 have HN := hid (rnum_any b s ra re most.toNat _ hrd2 hs hok2 (by omega))
 rw [hmn] at HN
 have hnl := numR_le ⟨byt s, ra, re⟩ most.toNat
 have hno := numR_ok (s := s) (r := ⟨byt s, ra, re⟩) ⟨rfl, hok2⟩ most.toNat
 obtain ⟨r, hr⟩ : ∃ r, r = numR ⟨byt s, ra, re⟩ most.toNat := ⟨_, rfl⟩
 rw [← hr] at HN hnl hno ⊢
 have j2 : wrap64 (r.1 : Int) = (r.1 : Int) := by unfold wrap64; omega
 have HNO := hid hno
 have HV := hid (And.intro hvx2 hvp2)
 have HNE := hid (And.intro hx (And.intro hxp hbp))
 obtain ⟨Q, hQ⟩ : ∃ Q : Ending → World → Prop, Q = fun e' W' => e' = .returned (.int .i64 (r.1 : Int)) ∧ RAt s x b p (r.2, ra) W' ∧ Turn [x, b, p] W W' := ⟨_, rfl⟩
 rw [← hQ]
 have HQ := hid hQ
 clear hQ hrd hvx hvp hok2 hle hx hxp hbp hs hm hrd2 hvx2 hvp2 hmn hr hnl hno
 go_enter Tryz.func126, Tryz.ntmps126
 go_wp2_with fail
 refine HAT.out.mono ?_
 rintro e' w2 ⟨rfl, rfl⟩
 go_wp2_with fail
 refine HN.out.mono ?_
 rintro e' w3 ⟨rfl, hra, hT⟩
 go_wp2_with fail
 rw [HQ.out]
 refine ⟨by show Ending.returned (Value.int .i64 (wrap64 (r.1 : Int))) = _; rw [j2], ⟨hra, hT.blk (by simp; exact HNE.out.1) HV.out.1, hT.blk (by simp; exact fun e => HNE.out.2.2 e.symm) HV.out.2, HNO.out.1, HNO.out.2⟩, ?_⟩
 exact ((Turn.refl _ _).setCell (Or.inl (by simp)) _).trans (hT.mono (by simp))
set_option maxRecDepth 100000 in
set_option maxHeartbeats 4000000 in
theorem rc2_any (s : ByteArray) (x b p : Nat) (q : Rdr × Nat) (y : Int) (W : World) (h : RAt s x b p q W) (hs : s.size ≤ 16777216) (hx : x ≠ b) (hxp : x ≠ p) (hbp : b ≠ p) :
  Calls Tryz.prog 127 #[.int .i64 y, .pointer (some ⟨x, 0, none⟩)] W fun e' W' => e' = .returned (.int .i64 (zagZ (numR q.1 maxU).1)) ∧ RAt s x b p ((numR q.1 maxU).2, q.2) W' ∧ Turn [x, b, p] W W' := by
 obtain ⟨⟨rs, ra, re⟩, pl⟩ := q
 obtain ⟨hrd, hvx, hvp, ⟨hok1, hok2⟩, hle⟩ := h
 dsimp only at *
 subst hok1
 have cx := hvx.cell 0 (v := .pointer (some ⟨b, 0, none⟩)) rfl
 have HN := hid (rint_any b s ra re _ hrd hs hok2)
 have hno := numR_ok (s := s) (r := ⟨byt s, ra, re⟩) ⟨rfl, hok2⟩ maxU
 obtain ⟨r, hr⟩ : ∃ r, r = numR ⟨byt s, ra, re⟩ maxU := ⟨_, rfl⟩
 rw [← hr] at HN hno ⊢
 have HNO := hid hno
 have HV := hid (And.intro hvx hvp)
 have HNE := hid (And.intro hx (And.intro hxp hbp))
 have HLE := hid hle
 obtain ⟨Q, hQ⟩ : ∃ Q : Ending → World → Prop, Q = fun e' W' => e' = .returned (.int .i64 (zagZ r.1)) ∧ RAt s x b p (r.2, pl) W' ∧ Turn [x, b, p] W W' := ⟨_, rfl⟩
 rw [← hQ]
 have HQ := hid hQ
 clear hQ hrd hvx hvp hok2 hle hx hxp hbp hs hr hno
 go_enter Tryz.func127, Tryz.ntmps127
 go_wp2_with fail
 refine HN.out.mono ?_
 rintro e' w3 ⟨rfl, hra, hT⟩
 go_wp2_with fail
 rw [HQ.out]
 exact ⟨rfl, ⟨hra, hT.blk (by simp; exact HNE.out.1) HV.out.1, hT.blk (by simp; exact fun e => HNE.out.2.2 e.symm) HV.out.2, HNO.out.1, Nat.le_trans HLE.out HNO.out.2⟩, hT.mono (by simp)⟩
theorem failR_ok {s : ByteArray} {r : Rdr} {p : Nat} (h : RdOk s r) (hp : p ≤ r.at_) : RdOk s (failR r p) ∧ p ≤ (failR r p).at_ := by
 unfold failR
 split
 ·exact ⟨h, hp⟩
 ·exact ⟨⟨h.1, Nat.le_trans hp h.2⟩, Nat.le_refl _⟩
set_option maxRecDepth 100000 in
set_option maxHeartbeats 4000000 in
theorem rc3_any (s : ByteArray) (x b p : Nat) (q : Rdr × Nat) (W : World) (h : RAt s x b p q W) (hx : x ≠ b) (hxp : x ≠ p) (hbp : b ≠ p) :
  Calls Tryz.prog 129 #[.pointer (some ⟨x, 0, none⟩), .pointer (some ⟨p, 0, none⟩)] W fun e' W' => (∃ v, e' = .returned v) ∧ RAt s x b p (failR q.1 q.2, q.2) W' ∧ Turn [x, b, p] W W' := by
 obtain ⟨⟨rs, ra, re⟩, pl⟩ := q
 obtain ⟨hrd, hvx, hvp, ⟨hok1, hok2⟩, hle⟩ := h
 dsimp only at *
 subst hok1
 have cx := hvx.cell 0 (v := .pointer (some ⟨b, 0, none⟩)) rfl
 have cp := hvp.cell 0 (v := .int .i64 (pl : Int)) rfl
 have HN := hid (rfail_any b s ra re pl _ hrd hle)
 have hno := failR_ok (s := s) (r := ⟨byt s, ra, re⟩) ⟨rfl, hok2⟩ hle
 obtain ⟨r, hr⟩ : ∃ r, r = failR ⟨byt s, ra, re⟩ pl := ⟨_, rfl⟩
 rw [← hr] at HN hno ⊢
 have HNO := hid hno
 have HV := hid (And.intro hvx hvp)
 have HNE := hid (And.intro hx (And.intro hxp hbp))
 obtain ⟨Q, hQ⟩ : ∃ Q : Ending → World → Prop, Q = fun e' W' => (∃ v, e' = .returned v) ∧ RAt s x b p (r, pl) W' ∧ Turn [x, b, p] W W' := ⟨_, rfl⟩
 rw [← hQ]
 have HQ := hid hQ
 clear hQ hrd hvx hvp hok2 hle hx hxp hbp hr hno
 go_enter Tryz.func129, Tryz.ntmps129
 go_wp2_with fail
 refine HN.out.mono ?_
 rintro e' w3 ⟨⟨v, rfl⟩, hra, hT⟩
 go_wp2_with fail
 go_end0
 rw [HQ.out]
 exact ⟨⟨_, rfl⟩, ⟨hra, hT.blk (by simp; exact HNE.out.1) HV.out.1, hT.blk (by simp; exact fun e => HNE.out.2.2 e.symm) HV.out.2, HNO.out.1, HNO.out.2⟩, hT.mono (by simp)⟩
theorem rClOk (s : ByteArray) (x b p : Nat) (hs : s.size ≤ 16777216) (hx : x ≠ b) (hxp : x ≠ p) (hbp : b ≠ p) :
  ClOk rCl [x, b, p] (RAt s x b p) (fun _ => True) (fun _ _ => True) 126 127 129 #[.pointer (some ⟨x, 0, none⟩), .pointer (some ⟨p, 0, none⟩)] #[.pointer (some ⟨x, 0, none⟩)] #[.pointer (some ⟨x, 0, none⟩), .pointer (some ⟨p, 0, none⟩)] where
 okm j s h := trivial
 okn j s x m h := trivial
 en args W := by kernel_rfl
 ei args W := by kernel_rfl
 eb args W := by kernel_rfl
 keep q W W' h hk := by
  have e1 := hk x (by simp)
  have e2 := hk b (by simp)
  have e3 := hk p (by simp)
  exact ⟨by unfold RdrAt Blk; rw [e2]; exact h.rd, by unfold Blk; rw [e1]; exact h.vx, by unfold Blk; rw [e3]; exact h.vp, h.ok, h.le⟩
 num q y most W h _ _ hm := rc1_any s x b p q y most W h hs hx hxp hbp hm
 nb q y most _ hm := by
  have := numR_le q.1 most.toNat
  show 0 ≤ ((numR q.1 most.toNat).1 : Int) ∧ ((numR q.1 most.toNat).1 : Int) ≤ _
  omega
 int q y W h _ hy := rc2_any s x b p q y W h hs hx hxp hbp
 bad q W h := rc3_any s x b p q W h hx hxp hbp
end Go.Proofs.YtnblhodhkifeeaaGreatDoor
/-
 Walk: (*Coder).Read.
-/
namespace Go.Proofs.YtnblhodhkifeeaaGreatDoor
set_option linter.unusedVariables false
set_option linter.unusedSimpArgs false
open Go Go.RowKit
theorem r_meth {T V S : Int} {c : Cdr} {r : Rdr} {p : Nat} (hc : OkC T c) (hT : 1 ≤ T ∧ T ≤ 6) (hV : 1 ≤ V ∧ V ≤ 32) (hS : 1 ≤ S ∧ S ≤ 32) (kind : Int) (th : Nat) (s : Rdr × Nat) : MethOk rCl (fun _ => True) V S c kind th 0 0 0 0 0 s := by
 have hcl := hc.clock
 have hbg := hc.begun th
 unfold maxClockN at hcl hbg
 refine ⟨by omega, hcl, hbg, by omega, fun _ => ⟨trivial, trivial⟩, fun _ => ⟨trivial, trivial⟩, fun _ => ⟨trivial, (numR s.1 (V - 1).toNat).1, rfl, ?_⟩, fun _ => trivial, fun _ => trivial, fun _ => trivial, fun _ => ⟨trivial, trivial, ?_⟩⟩
 ·have := numR_le s.1 (V - 1).toNat
  omega
 ·have := numR_le s.1 (5 : Int).toNat
  show ((numR s.1 (5 : Int).toNat).1 : Int) ≤ 5
  omega
theorem dset7 {w : World} {b : Nat} {c0 c1 c2 c3 c4 c5 c6 : Value} {t : TypeId} (h : Blk w b #[c0, c1, c2, c3, c4, c5, c6] t) (v0 v1 v2 v3 v4 v5 v6 : Value) : Blk (((((((w.setCell ⟨b, 0, none⟩ v0).setCell ⟨b, 1, none⟩ v1).setCell ⟨b, 2, none⟩ v2).setCell ⟨b, 3, none⟩ v3).setCell ⟨b, 4, none⟩ v4).setCell ⟨b, 5, none⟩ v5).setCell ⟨b, 6, none⟩ v6) b #[v0, v1, v2, v3, v4, v5, v6] t := by
 have := ((((((h.set 0 v0).set 1 v1).set 2 v2).set 3 v3).set 4 v4).set 5 v5).set 6 v6
 simpa using this
theorem dfar7 {w : World} {b d : Nat} {cs : Array Value} {t : TypeId} (h : Blk w d cs t) (hne : d ≠ b) (v0 v1 v2 v3 v4 v5 v6 : Value) : Blk (((((((w.setCell ⟨b, 0, none⟩ v0).setCell ⟨b, 1, none⟩ v1).setCell ⟨b, 2, none⟩ v2).setCell ⟨b, 3, none⟩ v3).setCell ⟨b, 4, none⟩ v4).setCell ⟨b, 5, none⟩ v5).setCell ⟨b, 6, none⟩ v6) d cs t :=
 ((((((h.set_other ⟨b, 0, none⟩ v0 hne).set_other ⟨b, 1, none⟩ v1 hne).set_other ⟨b, 2, none⟩ v2 hne).set_other ⟨b, 3, none⟩ v3 hne).set_other ⟨b, 4, none⟩ v4 hne).set_other ⟨b, 5, none⟩ v5 hne).set_other ⟨b, 6, none⟩ v6 hne
theorem dturn7 {l : List Nat} {a w : World} {b : Nat} (h : Turn l a w) (hb : a.heap.size ≤ b) (v0 v1 v2 v3 v4 v5 v6 : Value) : Turn l a (((((((w.setCell ⟨b, 0, none⟩ v0).setCell ⟨b, 1, none⟩ v1).setCell ⟨b, 2, none⟩ v2).setCell ⟨b, 3, none⟩ v3).setCell ⟨b, 4, none⟩ v4).setCell ⟨b, 5, none⟩ v5).setCell ⟨b, 6, none⟩ v6) :=
 ((((((h.setCell (p := ⟨b, 0, none⟩) (Or.inr hb) v0).setCell (p := ⟨b, 1, none⟩) (Or.inr hb) v1).setCell (p := ⟨b, 2, none⟩) (Or.inr hb) v2).setCell (p := ⟨b, 3, none⟩) (Or.inr hb) v3).setCell (p := ⟨b, 4, none⟩) (Or.inr hb) v4).setCell (p := ⟨b, 5, none⟩) (Or.inr hb) v5).setCell (p := ⟨b, 6, none⟩) (Or.inr hb) v6
theorem Turn.over {l m : List Nat} {a b c : World} (h : Turn l a b) (k : Turn m b c) (hm : ∀ x ∈ m, x ∈ l ∨ a.heap.size ≤ x) : Turn l a c :=
 ⟨k.os.trans h.os, k.tape.trans h.tape, k.output.trans h.output, Nat.le_trans h.size k.size, fun i hi hn => (k.block i (Nat.lt_of_lt_of_le hi h.size) (fun h' => (hm i h').elim hn (fun e => absurd hi (Nat.not_lt.2 e)))).trans (h.block i hi hn)⟩
def ReadEP (T V S : Int) (s : ByteArray) (z : Ev × Nat × Rdr × Cdr) (C b : Nat) (W : World) (e' : Ending) (W' : World) : Prop :=
 e' = .returned (.tuple #[evA z.1, .int .i64 (z.2.1 : Int)]) ∧ Blk W' C (cdrA T V S z.2.2.2) 106 ∧ RdrAt W' b s z.2.2.1.at_ z.2.2.1.err ∧ Turn [C, b] W W'
set_option maxRecDepth 100000 in
set_option maxHeartbeats 4000000 in
theorem dread_any (T V S : Int) (c : Cdr) (s : ByteArray) (at_ : Nat) (C b : Nat) (W : World) (hC : Blk W C (cdrA T V S c) 106) (hT : 1 ≤ T ∧ T ≤ 6) (hV : 1 ≤ V ∧ V ≤ 32) (hS : 1 ≤ S ∧ S ≤ V) (hc : OkC T c) (hr : RdrAt W b s at_ 0) (hs : s.size ≤ 16777216) (ha : at_ ≤ s.size) (hCb : C ≠ b):
  Calls Tryz.prog 70 #[.pointer (some ⟨C, 0, none⟩), .pointer (some ⟨b, 0, none⟩)] W (ReadEP T V S s (readC T V S c ⟨byt s, at_, 0⟩) C b W) := by
 obtain ⟨W1, hW1⟩ : ∃ W1, W1 = (W.alloc (.cells #[.pointer (some ⟨b, 0, none⟩)] 63)).alloc (.cells #[.int .u8 0, .int .i64 0, .int .i64 0, .int .i64 0, .int .i64 0, .int .i64 0, .int .u8 0] 50) := ⟨_, rfl⟩
 have hb1 : Below W.heap.size W W1 := by rw [hW1]; exact ext_alloc (ext_alloc (ext_refl _) _) _
 have hx1 : Blk W1 W.heap.size #[.pointer (some ⟨b, 0, none⟩)] 63 := by rw [hW1]; exact (Blk.new W #[.pointer (some ⟨b, 0, none⟩)] 63).below (ext_alloc (ext_refl _) _)
 have he1 : Blk W1 (W.heap.size + 1) #[.int .u8 0, .int .i64 0, .int .i64 0, .int .i64 0, .int .i64 0, .int .i64 0, .int .u8 0] 50 := by rw [hW1]; exact Blk.new' _ _ _ (by (first | exact Array.size_push _ | exact (Array.size_push _).symm))
 have cx := hx1.cell 0 (v := .pointer (some ⟨b, 0, none⟩)) rfl
 have HAT := hid (rAt_any b s at_ 0 W1 (hr.below hb1))
 have HB1 := hid hb1
 have HX1 := hid hx1
 have HE1 := hid he1
 have HW1 := hid hW1
 have HC := hid hC
 have HR := hid hr
 obtain ⟨Q, hQ⟩ : ∃ Q, Q = ReadEP T V S s (readC T V S c ⟨byt s, at_, 0⟩) C b W := ⟨_, rfl⟩
 rw [← hQ]
 have HQ := hid hQ
 have HTV := hid (show (1 ≤ T ∧ T ≤ 6) ∧ (1 ≤ V ∧ V ≤ 32) ∧ (1 ≤ S ∧ S ≤ V) from ⟨hT, hV, hS⟩)
 have HOK := hid hc
 have HSZ := hid hs
 have HA := hid ha
 have HNE := hid hCb
 clear hC hr hb1 hx1 he1 hW1 hQ hT hV hS hc hs ha hCb
 go_enter Tryz.func70, Tryz.ntmps70
 go_wp2_with fail
 rw [← HW1.out]
 refine HAT.out.mono ?_
 rintro e' w2 ⟨rfl, rfl⟩
 clear HAT HW1
 obtain ⟨W3, hW3⟩ : ∃ W3, W3 = (W1.alloc (.cells #[.int .i64 (at_ : Int)] 3)).alloc (.cells (lineA C ⟨12, 0, 0, 0, 0, 0, 0⟩ .nilFunc .nilFunc .nilFunc) 111) := ⟨_, rfl⟩
 have hL3 : Blk W3 (W1.heap.size + 1) (lineA C ⟨12, 0, 0, 0, 0, 0, 0⟩ .nilFunc .nilFunc .nilFunc) 111 := by rw [hW3]; exact Blk.new' _ _ _ (by (first | exact Array.size_push _ | exact (Array.size_push _).symm))
 have hP3 : Blk W3 W1.heap.size #[.int .i64 (at_ : Int)] 3 := by rw [hW3]; exact (Blk.new W1 #[.int .i64 (at_ : Int)] 3).below (ext_alloc (ext_refl _) _)
 have hB3 : Below W1.heap.size W1 W3 := by rw [hW3]; exact ext_alloc (ext_alloc (ext_refl _) _) _
 have HP3 := hid hP3
 have HB3 := hid hB3
 have HL3 := hid hL3
 have p8 := hL3.cell 8 (v := .nilFunc) rfl
 have z8 := hL3.free 8
 have hL4 := hL3.set 8 (clo 126 #[.pointer (some ⟨W.heap.size, 0, none⟩), .pointer (some ⟨W1.heap.size, 0, none⟩)])
 have p9 := hL4.cell 9 (v := .nilFunc) rfl
 have z9 := hL4.free 9
 have hL5 := hL4.set 9 (clo 127 #[.pointer (some ⟨W.heap.size, 0, none⟩)])
 have p10 := hL5.cell 10 (v := .nilFunc) rfl
 have z10 := hL5.free 10
 clear hL3 hP3 hB3 hL4 hL5
 unfold lineA at hW3
 unfold clo at p9 z9 p10 z10
 have HW3 := hid hW3
 clear hW3
 go_wp2_with (rw [← HW3.out]; go_simp)
 clear p8 z8 p9 z9 p10 z10 cx
 obtain ⟨W5, hW5⟩ : ∃ W5, W5 = ((W3.setCell ⟨W1.heap.size + 1, 8, none⟩ (clo 126 #[.pointer (some ⟨W.heap.size, 0, none⟩), .pointer (some ⟨W1.heap.size, 0, none⟩)])).setCell ⟨W1.heap.size + 1, 9, none⟩ (clo 127 #[.pointer (some ⟨W.heap.size, 0, none⟩)])).setCell ⟨W1.heap.size + 1, 10, none⟩ (clo 129 #[.pointer (some ⟨W.heap.size, 0, none⟩), .pointer (some ⟨W1.heap.size, 0, none⟩)]) := ⟨_, rfl⟩
 have hne1 : W1.heap.size ≠ W1.heap.size + 1 := by omega
 have hle1 : W1.heap.size ≤ W1.heap.size + 1 := by omega
 have hL5 : Blk W5 (W1.heap.size + 1) (lineA C ⟨12, ((0 : Nat) : Int), 0, 0, 0, 0, 0⟩ (clo 126 #[.pointer (some ⟨W.heap.size, 0, none⟩), .pointer (some ⟨W1.heap.size, 0, none⟩)]) (clo 127 #[.pointer (some ⟨W.heap.size, 0, none⟩)]) (clo 129 #[.pointer (some ⟨W.heap.size, 0, none⟩), .pointer (some ⟨W1.heap.size, 0, none⟩)])) 111 := by rw [hW5]; exact ((HL3.out.set 8 _).set 9 _).set 10 _
 have hP5 : Blk W5 W1.heap.size #[.int .i64 (at_ : Int)] 3 := by rw [hW5]; exact ((HP3.out.set_other _ _ hne1).set_other _ _ hne1).set_other _ _ hne1
 have hB5 : Below W1.heap.size W1 W5 := by rw [hW5]; exact ((HB3.out.setCell (p := ⟨W1.heap.size + 1, 8, none⟩) hle1 _).setCell (p := ⟨W1.heap.size + 1, 9, none⟩) hle1 _).setCell (p := ⟨W1.heap.size + 1, 10, none⟩) hle1 _
 have hW5' := hW5
 unfold clo at hW5'
 rw [← hW5']
 clear hW5 hW5' HW3 HL3 HP3 HB3 hne1 hle1
 have hB05 := ext_trans HB1.out hB5
 have hC5 := HC.out.below hB05
 have hR5 : RdrAt W5 b s at_ 0 := Blk.below hB05 HR.out
 have hbW : b < W.heap.size := Blk.lt HR.out
 have hCW : C < W.heap.size := HC.out.lt
 have hW1s : W.heap.size < W1.heap.size := HX1.out.lt
 have hTV := HTV.out
 have hCb := HNE.out
 have hws := hB5.size
 have hks : ∀ k ∈ [W.heap.size, b, W1.heap.size], k < W5.heap.size := by
  have hl5 := hP5.lt
  intro k hk
  rcases List.mem_cons.1 hk with e | hk
  ·omega
  rcases List.mem_cons.1 hk with e | hk
  ·omega
  rcases List.mem_cons.1 hk with e | hk
  ·omega
  cases hk
 have OV := over_any (rClOk s W.heap.size b W1.heap.size HSZ.out (by omega) (by omega) (by omega)) T V S c 12 0 0 0 0 0 0 (⟨byt s, at_, 0⟩, at_) (W1.heap.size + 1) C W5 hL5 hC5 ⟨hR5, HX1.out.below hB5, hP5, ⟨rfl, HA.out⟩, Nat.le_refl _⟩ (by simp only [List.mem_cons, List.not_mem_nil, or_false]; omega) (by simp only [List.mem_cons, List.not_mem_nil, or_false]; omega) (by omega) trivial hTV.1 hTV.2.1 (by omega) (by omega) (by omega) HOK.out.last hks trivial (by
  have := numR_le ⟨byt s, at_, 0⟩ (13 * T - 1).toNat
  show 0 ≤ ((numR ⟨byt s, at_, 0⟩ (13 * T - 1).toNat).1 : Int) ∧ ((numR ⟨byt s, at_, 0⟩ (13 * T - 1).toNat).1 : Int) ≤ _
  omega) (fun t' _ _ => r_meth (r := ⟨byt s, at_, 0⟩) (p := at_) HOK.out hTV.1 hTV.2.1 (by omega) _ t' _)
 obtain ⟨lr1, lr2⟩ := line_read (T := T) (V := V) (S := S) (c := c) (r := ⟨byt s, at_, 0⟩) (p := at_)
 have lr1 : (lineG rCl T V S c ⟨12, ((0 : Nat) : Int), 0, 0, 0, 0, 0⟩ (⟨byt s, at_, 0⟩, at_)).1 = (lineR T V S c ⟨byt s, at_, 0⟩).1 := lr1
 have lr2 : (lineG rCl T V S c ⟨12, ((0 : Nat) : Int), 0, 0, 0, 0, 0⟩ (⟨byt s, at_, 0⟩, at_)).2.1 = (lineR T V S c ⟨byt s, at_, 0⟩).2 := lr2
 generalize (lineG rCl T V S c ⟨12, ((0 : Nat) : Int), 0, 0, 0, 0, 0⟩ (⟨byt s, at_, 0⟩, at_)) = z at OV lr1 lr2
 have HOV := hid OV
 have HLR := hid (And.intro lr1 lr2)
 have HB5 := hid hB5
 have HNS := hid (And.intro hbW (And.intro hCW hW1s))
 clear OV hws hCb lr1 lr2 hB5 hL5 hP5 hB05 hC5 hR5 hbW hCW hW1s hTV
 refine HOV.out.mono ?_
 rintro e' W6 ⟨rfl, hat6, hT6, hL6⟩
 clear HOV
 obtain ⟨ze, zr, zp⟩ := z
 dsimp only at hat6 hL6 HLR
 obtain ⟨hrd, hvx, hvp, hok6, hle6⟩ := hat6
 have cx := hvx.cell 0 (v := .pointer (some ⟨b, 0, none⟩)) rfl
 have HRD := hid hrd
 have HWR := hid (rWrong_any b s zr.at_ zr.err W6 hrd)
 have hnC : C ∉ (W1.heap.size + 1) :: [W.heap.size, b, W1.heap.size] := by
  have := HNS.out
  have := HNE.out
  simp only [List.mem_cons, List.not_mem_nil, or_false]
  omega
 have hnE : W.heap.size + 1 ∉ (W1.heap.size + 1) :: [W.heap.size, b, W1.heap.size] := by
  have := HNS.out
  have := HE1.out.lt
  simp only [List.mem_cons, List.not_mem_nil, or_false]
  omega
 have hC6 := hT6.blk hnC (HC.out.below (ext_trans HB1.out HB5.out))
 have hE6 := hT6.blk hnE (HE1.out.below HB5.out)
 have HC6 := hid hC6
 have HE6 := hid hE6
 have HL6 := hid hL6
 have HBT : Hid (Turn [C, b] W W6) := hid ((Turn.of_below (ext_trans HB1.out HB5.out)).over hT6 (by
  intro y hy
  have := HNS.out
  rcases List.mem_cons.1 hy with e | hy
  ·right; omega
  rcases List.mem_cons.1 hy with e | hy
  ·right; omega
  rcases List.mem_cons.1 hy with e | hy
  ·left; rw [e]; simp
  rcases List.mem_cons.1 hy with e | hy
  ·right; omega
  cases hy))
 clear hrd hvx hvp hok6 hle6 hnC hnE hC6 hE6 hL6 hT6 HC HE1
 go_wp2_with fail
 refine HWR.out.mono ?_
 rintro e' W7 ⟨rfl, hb7⟩
 have hE7 := HE6.out.below hb7
 have hL7 := HL6.out.below hb7
 have hC7 := HC6.out.below hb7
 have HR7 := hid (show RdrAt W7 b s zr.at_ zr.err from Blk.below hb7 HRD.out)
 have HB7 := hid hb7
 have x0 := hE7.cell 0 (v := .int .u8 0) rfl
 have x1 := hE7.cell 1 (v := .int .i64 0) rfl
 have x2 := hE7.cell 2 (v := .int .i64 0) rfl
 have x3 := hE7.cell 3 (v := .int .i64 0) rfl
 have x4 := hE7.cell 4 (v := .int .i64 0) rfl
 have x5 := hE7.cell 5 (v := .int .i64 0) rfl
 have x6 := hE7.cell 6 (v := .int .u8 0) rfl
 have y0 := hE7.free 0
 have y1 := hE7.free 1
 have y2 := hE7.free 2
 have y3 := hE7.free 3
 have y4 := hE7.free 4
 have y5 := hE7.free 5
 have y6 := hE7.free 6
 have HE7 := hid hE7
 have HL7 := hid hL7
 have HC7 := hid hC7
 clear hE7 hL7 hC7 hb7 HE6 HL6 HC6 HRD HWR
 by_cases he : zr.err = 0
 ·obtain ⟨ta, tb, tc, td⟩ := read_anew (T := T) (V := V) (S := S) (c := c) (s := byt s) (at_ := at_) (e := ze) (r' := zr) ⟨HTV.out.1.1, HTV.out.1.2, HTV.out.2.1.1, HTV.out.2.1.2, HTV.out.2.2.1, HTV.out.2.2.2⟩ HOK.out (byt_lt s) (Prod.ext HLR.out.1.symm HLR.out.2.symm) he
  have g1 : ((zr.err : Int) != 0) = false := by rw [he]; rfl
  obtain ⟨kind, eth, tx, ea, v, x, why⟩ := ze
  have hth0 : 0 ≤ eth := by
   have h1 := ta
   unfold tellsC at h1
   rw [Bool.and_eq_true] at h1
   obtain ⟨-, ⟨-, -, -, t1, -⟩, -⟩ := may_sizes' h1.1
   dsimp only at t1
   omega
  obtain ⟨th, rfl⟩ := Int.eq_ofNat_of_zero_le hth0
  obtain ⟨w1', w2', w3'⟩ := w_ats ta
  have l0 := HL7.out.cell 1 (v := .int .u8 kind) rfl
  have l1 := HL7.out.cell 2 (v := .int .i64 (th : Int)) rfl
  have l2 := HL7.out.cell 3 (v := .int .i64 tx) rfl
  have l3 := HL7.out.cell 4 (v := .int .i64 ea) rfl
  have l4 := HL7.out.cell 5 (v := .int .i64 v) rfl
  have l5 := HL7.out.cell 6 (v := .int .i64 x) rfl
  have l6 := HL7.out.cell 7 (v := .int .u8 why) rfl
  have HKN := hid (knows_any T V S c kind tx ea v x why th ea.toNat C W7 HC7.out w1' w2' w3')
  clear ta tb tc td hth0 w1' w2' w3' x0 x1 x2 x3 x4 x5 x6 y0 y1 y2 y3 y4 y5 y6
  go_wp2_with fail
  refine HKN.out.mono ?_
  rintro e' W8 ⟨rfl, hC8, hT8⟩
  have hs1 := HNS.out
  have hc1 := HNE.out
  have hl7 := HE7.out.lt
  have hll := HL7.out.lt
  have hx1 := HX1.out.lt
  have hE8 := hT8.blk (k := W.heap.size + 1) (by simp only [List.mem_cons, List.not_mem_nil, or_false]; omega) HE7.out
  have hL8 := hT8.blk (k := W1.heap.size + 1) (by simp only [List.mem_cons, List.not_mem_nil, or_false]; omega) HL7.out
  have hR8 : RdrAt W8 b s zr.at_ zr.err := Turn.blk hT8 (by simp only [List.mem_cons, List.not_mem_nil, or_false]; omega) HR7.out
  have l0 := hL8.cell 1 (v := .int .u8 kind) rfl
  have l1 := hL8.cell 2 (v := .int .i64 (th : Int)) rfl
  have l2 := hL8.cell 3 (v := .int .i64 tx) rfl
  have l3 := hL8.cell 4 (v := .int .i64 ea) rfl
  have l4 := hL8.cell 5 (v := .int .i64 v) rfl
  have l5 := hL8.cell 6 (v := .int .i64 x) rfl
  have l6 := hL8.cell 7 (v := .int .u8 why) rfl
  have x0 := hE8.cell 0 (v := .int .u8 0) rfl
  have y0 := hE8.free 0
  have x1 := hE8.cell 1 (v := .int .i64 0) rfl
  have y1 := hE8.free 1
  have x2 := hE8.cell 2 (v := .int .i64 0) rfl
  have y2 := hE8.free 2
  have x3 := hE8.cell 3 (v := .int .i64 0) rfl
  have y3 := hE8.free 3
  have x4 := hE8.cell 4 (v := .int .i64 0) rfl
  have y4 := hE8.free 4
  have x5 := hE8.cell 5 (v := .int .i64 0) rfl
  have y5 := hE8.free 5
  have x6 := hE8.cell 6 (v := .int .u8 0) rfl
  have y6 := hE8.free 6
  have hEL := hE8.lt
  have hLL := hL8.lt
  have HE8 := hid hE8
  have HR8 := hid hR8
  have HC8 := hid hC8
  have HT8 := hid hT8
  clear hE8 hL8 hR8 hC8 hT8
  go_wp2_with fail
  have hF := dset7 HE8.out (.int .u8 kind) (.int .i64 (th : Int)) (.int .i64 tx) (.int .i64 ea) (.int .i64 v) (.int .i64 x) (.int .u8 why)
  have q0 := hF.cell 0 (v := .int .u8 kind) rfl
  have q1 := hF.cell 1 (v := .int .i64 (th : Int)) rfl
  have q2 := hF.cell 2 (v := .int .i64 tx) rfl
  have q3 := hF.cell 3 (v := .int .i64 ea) rfl
  have q4 := hF.cell 4 (v := .int .i64 v) rfl
  have q5 := hF.cell 5 (v := .int .i64 x) rfl
  have q6 := hF.cell 6 (v := .int .u8 why) rfl
  exact bodyPost_ret (v := .tuple #[.agg #[.int .u8 kind, .int .i64 (th : Int), .int .i64 tx, .int .i64 ea, .int .i64 v, .int .i64 x, .int .u8 why], .int .i64 0]) (by simp [results, Tryz.results70, go_sem, q0, q1, q2, q3, q4, q5, q6]) rfl (by
   rw [HQ.out]
   have hrc : readC T V S c ⟨byt s, at_, 0⟩ = (⟨kind, (th : Int), tx, ea, v, x, why⟩, 0, zr, knowsC c ⟨kind, (th : Int), tx, ea, v, x, why⟩) := by
    unfold readC
    dsimp only
    rw [← HLR.out.2, if_neg (by rw [he]; decide), ← HLR.out.1]
   unfold ReadEP
   rw [hrc]
   refine ⟨rfl, dfar7 HC8.out (by omega) _ _ _ _ _ _ _, dfar7 HR8.out (by omega) _ _ _ _ _ _ _, ?_⟩
   exact dturn7 ((HBT.out.trans (Turn.of_below HB7.out)).trans (HT8.out.mono (by simp))) (by omega) _ _ _ _ _ _ _)
 ·have g1 : ((zr.err : Int) != 0) = true := by rw [bne_iff_ne]; omega
  go_wp2_with fail
  have hF := dset7 HE7.out (.int .u8 0) (.int .i64 0) (.int .i64 0) (.int .i64 0) (.int .i64 0) (.int .i64 0) (.int .u8 0)
  have q0 := hF.cell 0 (v := .int .u8 0) rfl
  have q1 := hF.cell 1 (v := .int .i64 0) rfl
  have q2 := hF.cell 2 (v := .int .i64 0) rfl
  have q3 := hF.cell 3 (v := .int .i64 0) rfl
  have q4 := hF.cell 4 (v := .int .i64 0) rfl
  have q5 := hF.cell 5 (v := .int .i64 0) rfl
  have q6 := hF.cell 6 (v := .int .u8 0) rfl
  exact bodyPost_ret (v := .tuple #[.agg #[.int .u8 0, .int .i64 0, .int .i64 0, .int .i64 0, .int .i64 0, .int .i64 0, .int .u8 0], .int .i64 (zr.err : Int)]) (by simp [results, Tryz.results70, go_sem, q0, q1, q2, q3, q4, q5, q6]) rfl (by
   rw [HQ.out]
   have hrc : readC T V S c ⟨byt s, at_, 0⟩ = (⟨0, 0, 0, 0, 0, 0, 0⟩, zr.err, zr, c) := by
    unfold readC
    dsimp only
    rw [← HLR.out.2, if_pos he]
   unfold ReadEP
   rw [hrc]
   have hs1 := HNS.out
   have hc1 := HNE.out
   have hl7 := HE7.out.lt
   refine ⟨rfl, dfar7 HC7.out (by omega) _ _ _ _ _ _ _, dfar7 HR7.out (by omega) _ _ _ _ _ _ _, ?_⟩
   exact dturn7 (HBT.out.trans (Turn.of_below HB7.out)) (by omega) _ _ _ _ _ _ _)
end Go.Proofs.YtnblhodhkifeeaaGreatDoor
/-
 A step of reading: what was read, and what is written of it.
-/
namespace Go.Proofs.YtnblhodhkifeeaaGreatDoor
set_option linter.unusedVariables false
set_option linter.unusedSimpArgs false
open Go Go.RowKit
theorem dbyt_head (s : ByteArray) (b : Nat) : byt (s.extract 0 b) = (byt s).take b := by
 unfold byt
 rw [ByteArray.data_extract, Array.toList_extract, List.map_take, List.map_drop]
 simp
theorem dext_head (s : ByteArray) (b : Nat) : bstr ((byt s).take b) = s.extract 0 b := by
 rw [← dbyt_head, bstr_byt]
theorem dcmp_byt (a b : ByteArray) : (a.toList == b.toList) = decide (byt a = byt b) := by
 rw [ByteArray.toList_eq, ByteArray.toList_eq, Bool.eq_iff_iff, beq_iff_eq, decide_eq_true_iff]
 constructor
 ·intro h; unfold byt; rw [h]
 ·intro h; rw [byt_inj h]
theorem told_evOk {T V S : Int} {c : Cdr} {e : Ev} (ht : tellsC T V S c e = true) (hx : -9223372036854775808 ≤ e.x ∧ e.x ≤ 9223372036854775807) : EvOk e := by
 unfold tellsC at ht
 rw [Bool.and_eq_true] at ht
 obtain ⟨⟨s1, s2, s3, s4, s5, s6⟩, ⟨k1, k2, hw, t1, t2, x1, x2, v1, v2, a1, a2⟩, hb⟩ := may_sizes' ht.1
 have hv : -1 ≤ leastV e := by unfold leastV; split <;> omega
 have hp : placesE e V S ≤ 32 := by unfold placesE; repeat' split
                                    all_goals omega
 have hwhy : 0 ≤ e.why ∧ e.why ≤ 255 := by
  by_cases h10 : e.kind = 10
  ·have := hw h10; omega
  ·have hz : e.why = (bareE e).why := by rw [← hb]
   have : (bareE e).why = 0 := by
    unfold bareE
    repeat' split
    all_goals first | rfl | (exfalso; omega)
   omega
 exact ⟨⟨by omega, by omega⟩, ⟨by omega, by omega⟩, ⟨by omega, by omega⟩, ⟨by omega, by omega⟩, ⟨by omega, by omega⟩, hx, hwhy⟩
theorem readC_two {T V S : Int} {c : Cdr} {s : List Nat} {at_ : Nat} (hsz : 1 ≤ T ∧ T ≤ 6 ∧ 1 ≤ V ∧ V ≤ 32 ∧ 1 ≤ S ∧ S ≤ V) (hc : OkC T c) (hs : ∀ b ∈ s, b < 256) (ha : at_ ≤ s.length) :
  (∃ r' : Rdr, r'.err ≠ 0 ∧ at_ ≤ r'.at_ ∧ readC T V S c ⟨s, at_, 0⟩ = (⟨0, 0, 0, 0, 0, 0, 0⟩, r'.err, r', c)) ∨
  (∃ (e : Ev) (n : Nat), n = (bytesC T c e).length ∧ tellsC T V S c e = true ∧ EvOk e ∧ OkC T (knowsC c e) ∧ at_ + n ≤ s.length ∧ s.take at_ ++ bytesC T c e = s.take (at_ + n) ∧ readC T V S c ⟨s, at_, 0⟩ = (e, 0, ⟨s, at_ + n, 0⟩, knowsC c e)) := by
 obtain ⟨⟨e, r'⟩, hz⟩ : ∃ z, lineR T V S c ⟨s, at_, 0⟩ = z := ⟨_, rfl⟩
 have hon := lineR_on T V S c ⟨s, at_, 0⟩
 rw [hz] at hon
 dsimp only at hon
 by_cases he : r'.err = 0
 ·right
  obtain ⟨h1, h2, h3, h4⟩ := read_anew hsz hc hs hz he
  have hlen : (bytesC T c e).length ≤ s.length - at_ := by
   have := congrArg List.length h4
   rw [List.length_take, List.length_drop] at this
   omega
  refine ⟨e, _, rfl, h1, told_evOk h1 h2, okC_knows hc h1 h2, by omega, ?_, ?_⟩
  ·rw [← h4, h4]
   conv => lhs; rw [← h4]
   rw [List.take_add]
  ·unfold readC
   dsimp only
   rw [hz]
   dsimp only
   rw [if_neg (by omega), h3]
 ·left
  refine ⟨r', he, hon, ?_⟩
  unfold readC
  dsimp only
  rw [hz]
  dsimp only
  rw [if_pos he]
end Go.Proofs.YtnblhodhkifeeaaGreatDoor
