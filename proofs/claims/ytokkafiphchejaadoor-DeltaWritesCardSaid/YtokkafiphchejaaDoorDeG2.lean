/-
  Joined texts: DeL5 DeL6h DeL6 DeL7 DrK DrC HtJ.
-/
import Derived.Test.YtokkafiphchejaaDoorDeL4
import Derived.Test.YtokkafiphchejaaDoorDeGW
import Derived.Test.YtokkafiphchejaaDoorDeL1b
import Derived.Test.YtokkafiphchejaaDoorShN
import Derived.Test.YtokkafiphchejaaDoorDeL1
import Derived.Test.YtokkafiphchejaaDoorReg5
import Derived.Test.YtokkafiphchejaaDoorTurn
/-
  The writer's closures are as a line asks.
-/
namespace Go.Proofs.YtokkafiphchejaaDoor
set_option linter.unusedVariables false
set_option linter.unusedSimpArgs false
set_option linter.unusedVariables false
open Go Go.RowKit
def WAt (b : Nat) (s : List Nat) (W : World) : Prop := ∃ S : ByteArray, byt S = s ∧ Blk W b #[.string S] 9
def WPx (x : Int) : Prop := 0 ≤ x ∧ x ≤ 4398046511104
def WOk (j : Nat) (s : List Nat) : Prop := s.length + 10 * j ≤ 1000
set_option maxRecDepth 100000 in
set_option maxHeartbeats 4000000 in
theorem wbad_any (W : World) : Calls Tryd.prog 30 #[] W fun e' W' => e' = .returned (.tuple #[]) ∧ W' = W := by
  go_enter Tryd.func30, Tryd.ntmps30
  go_wp2_with fail
  go_end0
  exact ⟨rfl, rfl⟩
theorem wClOk (b : Nat) : ClOk wCl [b] (WAt b) WPx WOk 31 33 30 #[.pointer (some ⟨b, 0, none⟩)] #[.pointer (some ⟨b, 0, none⟩)] #[] where
  okm j s h := by unfold WOk at *; omega
  okn j s x m h := by
    unfold WOk at *
    show (s ++ putN x.toNat).length + 10 * j ≤ 1000
    have := putN_ten x.toNat
    rw [List.length_append]; omega
  en args W := by kernel_rfl
  ei args W := by kernel_rfl
  eb args W := by kernel_rfl
  keep s W W' h hk := by
    obtain ⟨S, h1, h2⟩ := h
    exact ⟨S, h1, by unfold Blk; rw [hk b (by simp)]; exact h2⟩
  num s x most W h ho hp hm := by
    obtain ⟨S, h1, h2⟩ := h
    unfold WPx at hp
    unfold WOk at ho
    obtain ⟨n, rfl⟩ := Int.eq_ofNat_of_zero_le hp.1
    refine (wnum_any n most S b W h2 (by omega) (by rw [← byt_len, h1]; omega)).mono fun e' W' hh => ?_
    obtain ⟨r, S', q1, q2, q3⟩ := hh
    exact ⟨r, ⟨S', by rw [q1, h1]; rfl, q2⟩, q3⟩
  nb s x most hp hm := hp
  int s x W h ho hx := by
    obtain ⟨S, h1, h2⟩ := h
    unfold WOk at ho
    refine (wint_any x S b W h2 hx (by rw [← byt_len, h1]; omega)).mono fun e' W' hh => ?_
    obtain ⟨r, S', q1, q2, q3⟩ := hh
    exact ⟨r, ⟨S', by rw [q1, h1]; rfl, q2⟩, q3⟩
  bad s W h := by
    refine (wbad_any W).mono fun e' W' hh => ?_
    obtain ⟨r, rfl⟩ := hh
    exact ⟨⟨_, r⟩, h, Turn.refl _ _⟩
end Go.Proofs.YtokkafiphchejaaDoor
/-
  Regions with one call, and nothing stored: of any program.
-/
namespace Go.Proofs.YtokkafiphchejaaDoor
set_option linter.unusedVariables false
open Go Go.RowKit
structure LQ {σ : Type} (W : World) (ks : List Nat) (At : σ → World → Prop) (s' : σ) (ci : Nat) (l : Nat → Bool) (w' : World) : Prop where
  pre : l ci = false → w' = W.drew
  mid : l ci = true → At s' w' ∧ Turn ks W w'
section
variable {σ : Type} {W : World} {ks : List Nat} {At : σ → World → Prop} {s' : σ} {n ci : Nat} {l l' : Nat → Bool} {w' w'' : World}
theorem LQ.ext (hci : ci < n) (h : ∀ i, i < n → l i = l' i) (H : LQ W ks At s' ci l w') : LQ W ks At s' ci l' w' where
  pre g := H.pre (by rw [h ci hci]; exact g)
  mid g := H.mid (by rw [h ci hci]; exact g)
theorem LQ.start : LQ W ks At s' ci (fun _ => false) W.drew := ⟨fun _ => rfl, fun h => by (cases h)⟩
theorem LQ.turn (H : LQ W ks At s' ci l w') : Turn ks W w' := by
  cases hc : l ci with
  | false => rw [H.pre hc]; exact (Turn.refl _ _).drew
  | true => exact (H.mid hc).2
theorem LQ.put (H : LQ W ks At s' ci l w') (i : Nat) (hnc : i ≠ ci) : LQ W ks At s' ci (doneL l i) w' := by
  have e2 : doneL l i ci = l ci := by unfold doneL; rw [if_neg (Ne.symm hnc)]
  exact ⟨fun g => H.pre (by rw [← e2]; exact g), fun g => H.mid (by rw [← e2]; exact g)⟩
theorem LQ.call (ha : At s' w'') (ht : Turn ks W.drew w'') : LQ W ks At s' ci (doneL l ci) w'' := by
  have e2 : doneL l ci ci = true := by unfold doneL; rw [if_pos rfl]
  exact ⟨fun g => by (rw [e2] at g; cases g), fun _ => ⟨ha, ((Turn.refl ks W).drew).trans ht⟩⟩
end
end Go.Proofs.YtokkafiphchejaaDoor
/-
  Walk: whether an event may be told (its first region is printed by gen_line6.py).
-/
namespace Go.Proofs.YtokkafiphchejaaDoor
set_option linter.unusedVariables false
set_option linter.unusedSimpArgs false
set_option linter.unusedVariables false
open Go Go.RowKit
set_option maxRecDepth 100000 in
set_option maxHeartbeats 4000000 in
theorem tells_any (T V S : Int) (c : Cdr) (kind tx at_ v x why : Int) (th : Nat) (C : Nat) (W : World) (hok : EvOk ⟨kind, (th : Int), tx, at_, v, x, why⟩) (hC : Blk W C (cdrA T V S c) 74) (hKd : KindsAt W) (hT : 1 ≤ T ∧ T ≤ 6) (hV : 1 ≤ V ∧ V ≤ 32) (hS : 1 ≤ S ∧ S ≤ 32) :
    Calls Tryd.prog 29 #[.pointer (some ⟨C, 0, none⟩), evA ⟨kind, (th : Int), tx, at_, v, x, why⟩] W fun e' W' => e' = .returned (.bool (tellsC T V S c ⟨kind, (th : Int), tx, at_, v, x, why⟩)) ∧ Below W.heap.size W W' := by
  obtain ⟨WB, hWB⟩ : ∃ WB, WB = W.alloc (.cells #[.int .u8 kind, .int .i64 (th : Int), .int .i64 tx, .int .i64 at_, .int .i64 v, .int .i64 x, .int .u8 why] 33) := ⟨_, rfl⟩
  have HLOW : Hid (Below W.heap.size W WB) := hid (by rw [hWB]; exact ext_alloc (ext_refl _) _)
  have HBE : Hid (Blk WB W.heap.size #[.int .u8 kind, .int .i64 (th : Int), .int .i64 tx, .int .i64 at_, .int .i64 v, .int .i64 x, .int .u8 why] 33) := hid (by rw [hWB]; exact Blk.new _ _ _)
  have HBC := hid (hC.below HLOW.out)
  obtain ⟨m, hm⟩ : ∃ m, m = mayE ⟨kind, (th : Int), tx, at_, v, x, why⟩ T V S := ⟨_, rfl⟩
  have HN := hid (fun W' (h : Below WB.heap.size WB W') => may_any ⟨kind, (th : Int), tx, at_, v, x, why⟩ T V S W' hok (hKd.below (ext_trans HLOW.out h)))
  rw [← hm] at HN
  obtain ⟨mn, hmn⟩ : ∃ mn, (!m) = mn := ⟨_, rfl⟩
  have ht0 : tellsC T V S c ⟨kind, (th : Int), tx, at_, v, x, why⟩ = (m && if kind = 1 then decide (c.clock ≤ v) else if kind = 2 then decide (v ≤ c.begun th) else if kind = 5 then decide (c.clock < v) else if kind = 7 then decide (v = 0 ∨ v = c.bumped th) else true) := by unfold tellsC; rw [← hm]
  obtain ⟨res, hres⟩ : ∃ res, res = tellsC T V S c ⟨kind, (th : Int), tx, at_, v, x, why⟩ := ⟨_, rfl⟩
  rw [ht0] at hres
  rw [ht0, ← hres]
  have HRES := hid hres
  clear ht0 hres
  have hin := fun (h : m = true) => may_sizes' (e := ⟨kind, (th : Int), tx, at_, v, x, why⟩) (T := T) (V := V) (S := S) (by rw [← hm]; exact h)
  dsimp only at hin
  dsimp only [evA] at HN ⊢
  have HIN := hid hin
  have HWB := hid hWB
  clear hC hKd hT hV hS hm hin hWB hok
  go_enter Tryd.func29, Tryd.ntmps29
  go_wp2_with fail
  rw [← HWB.out]
  apply wp_region_knownJ (fun qq => ([.agg #[.int .u8 kind, .int .i64 (th : Int), .int .i64 tx, .int .i64 at_, .int .i64 v, .int .i64 x, .int .u8 why], .pointer (some ⟨C, 0, none⟩), .pointer (some ⟨C, 0, none⟩), .pointer (some ⟨C, 0, none⟩), .int .i64 (T), .pointer (some ⟨C, 0, none⟩), .pointer (some ⟨C, 0, none⟩), .pointer (some ⟨C, 1, none⟩), .int .i64 (V), .pointer (some ⟨C, 0, none⟩), .pointer (some ⟨C, 0, none⟩), .pointer (some ⟨C, 2, none⟩), .int .i64 (S), .bool m, .bool mn] : List Value).getD qq undef) (LQ WB [] (fun (_ : Unit) _ => True) () 13)
  focus (simp [putAll, dstOf, Act.put, List.getD]; rfl)
  case hm => kernel_rfl
  case hd => kernel_rfl
  case hb => kernel_rfl
  case hng => kernel_rfl
  case hsz => kernel_rfl
  case hext => exact fun l l' w h H => H.ext (n := 15) (by decide) (fun i hi => h i hi)
  case h0 => exact LQ.start
  case hstep =>
    refine ⟨?_, ?_, ?_, ?_, ?_, ?_, ?_, ?_, ?_, ?_, ?_, ?_, ?_, ?_, ?_,  trivial⟩
    · refine ⟨(fun g b h => by cases h), fun l w' hl hdp hJ hg ρ h1 h2 h3 h4 h5 => ?_⟩
      have HJ := hid hJ
      clear hJ
      have f3 : ρ (.tmp 3) = .pointer (some ⟨W.heap.size, 0, none⟩) := h5 3 (by kernel_rfl)
      have hbe := HJ.out.turn.blk (by simp) HBE.out
      have e0 := hbe.cell 0 (v := .int .u8 (kind)) rfl
      have e1 := hbe.cell 1 (v := .int .i64 ((th : Int))) rfl
      have e2 := hbe.cell 2 (v := .int .i64 (tx)) rfl
      have e3 := hbe.cell 3 (v := .int .i64 (at_)) rfl
      have e4 := hbe.cell 4 (v := .int .i64 (v)) rfl
      have e5 := hbe.cell 5 (v := .int .i64 (x)) rfl
      have e6 := hbe.cell 6 (v := .int .u8 (why)) rfl
      clear hbe
      clear h4 h5 hg
      unfold OpY
      go_simp
      first | exact ⟨rfl, HJ.out.put 0 (by decide)⟩ | exact ⟨Or.inr rfl, HJ.out.put 0 (by decide)⟩
    · refine ⟨(fun g b h => by cases h), fun l w' hl hdp hJ hg ρ h1 h2 h3 h4 h5 => ?_⟩
      have HJ := hid hJ
      clear hJ
      have f0 : ρ (.tmp 0) = .pointer (some ⟨C, 0, none⟩) := h5 0 (by kernel_rfl)
      clear h4 h5 hg
      unfold OpY
      go_simp
      first | exact ⟨rfl, HJ.out.put 1 (by decide)⟩ | exact ⟨Or.inr rfl, HJ.out.put 1 (by decide)⟩
    · refine ⟨(fun g b h => by cases h), fun l w' hl hdp hJ hg ρ h1 h2 h3 h4 h5 => ?_⟩
      have HJ := hid hJ
      clear hJ
      have f6 : ρ (.tmp 6) = .pointer (some ⟨C, 0, none⟩) := h4 1 6 (by kernel_rfl) (by kernel_rfl)
      clear h4 h5 hg
      unfold OpY
      go_simp
      first | exact ⟨rfl, HJ.out.put 2 (by decide)⟩ | exact ⟨Or.inr rfl, HJ.out.put 2 (by decide)⟩
    · refine ⟨(fun g b h => by cases h), fun l w' hl hdp hJ hg ρ h1 h2 h3 h4 h5 => ?_⟩
      have HJ := hid hJ
      clear hJ
      have f7 : ρ (.tmp 7) = .pointer (some ⟨C, 0, none⟩) := h4 2 7 (by kernel_rfl) (by kernel_rfl)
      clear h4 h5 hg
      unfold OpY
      go_simp
      first | exact ⟨rfl, HJ.out.put 3 (by decide)⟩ | exact ⟨Or.inr rfl, HJ.out.put 3 (by decide)⟩
    · refine ⟨(fun g b h => by cases h), fun l w' hl hdp hJ hg ρ h1 h2 h3 h4 h5 => ?_⟩
      have HJ := hid hJ
      clear hJ
      have f8 : ρ (.tmp 8) = .pointer (some ⟨C, 0, none⟩) := h4 3 8 (by kernel_rfl) (by kernel_rfl)
      have c : w'.cell? ⟨C, 0, none⟩ = some (.int .i64 (T)) := (HJ.out.turn.blk (by simp) HBC.out).cell 0 rfl
      clear h4 h5 hg
      unfold OpY
      go_simp
      first | exact ⟨rfl, HJ.out.put 4 (by decide)⟩ | exact ⟨Or.inr rfl, HJ.out.put 4 (by decide)⟩
    · refine ⟨(fun g b h => by cases h), fun l w' hl hdp hJ hg ρ h1 h2 h3 h4 h5 => ?_⟩
      have HJ := hid hJ
      clear hJ
      have f0 : ρ (.tmp 0) = .pointer (some ⟨C, 0, none⟩) := h5 0 (by kernel_rfl)
      clear h4 h5 hg
      unfold OpY
      go_simp
      first | exact ⟨rfl, HJ.out.put 5 (by decide)⟩ | exact ⟨Or.inr rfl, HJ.out.put 5 (by decide)⟩
    · refine ⟨(fun g b h => by cases h), fun l w' hl hdp hJ hg ρ h1 h2 h3 h4 h5 => ?_⟩
      have HJ := hid hJ
      clear hJ
      have f10 : ρ (.tmp 10) = .pointer (some ⟨C, 0, none⟩) := h4 5 10 (by kernel_rfl) (by kernel_rfl)
      clear h4 h5 hg
      unfold OpY
      go_simp
      first | exact ⟨rfl, HJ.out.put 6 (by decide)⟩ | exact ⟨Or.inr rfl, HJ.out.put 6 (by decide)⟩
    · refine ⟨(fun g b h => by cases h), fun l w' hl hdp hJ hg ρ h1 h2 h3 h4 h5 => ?_⟩
      have HJ := hid hJ
      clear hJ
      have f11 : ρ (.tmp 11) = .pointer (some ⟨C, 0, none⟩) := h4 6 11 (by kernel_rfl) (by kernel_rfl)
      clear h4 h5 hg
      unfold OpY
      go_simp
      first | exact ⟨rfl, HJ.out.put 7 (by decide)⟩ | exact ⟨Or.inr rfl, HJ.out.put 7 (by decide)⟩
    · refine ⟨(fun g b h => by cases h), fun l w' hl hdp hJ hg ρ h1 h2 h3 h4 h5 => ?_⟩
      have HJ := hid hJ
      clear hJ
      have f12 : ρ (.tmp 12) = .pointer (some ⟨C, 1, none⟩) := h4 7 12 (by kernel_rfl) (by kernel_rfl)
      have c : w'.cell? ⟨C, 1, none⟩ = some (.int .i64 (V)) := (HJ.out.turn.blk (by simp) HBC.out).cell 1 rfl
      clear h4 h5 hg
      unfold OpY
      go_simp
      first | exact ⟨rfl, HJ.out.put 8 (by decide)⟩ | exact ⟨Or.inr rfl, HJ.out.put 8 (by decide)⟩
    · refine ⟨(fun g b h => by cases h), fun l w' hl hdp hJ hg ρ h1 h2 h3 h4 h5 => ?_⟩
      have HJ := hid hJ
      clear hJ
      have f0 : ρ (.tmp 0) = .pointer (some ⟨C, 0, none⟩) := h5 0 (by kernel_rfl)
      clear h4 h5 hg
      unfold OpY
      go_simp
      first | exact ⟨rfl, HJ.out.put 9 (by decide)⟩ | exact ⟨Or.inr rfl, HJ.out.put 9 (by decide)⟩
    · refine ⟨(fun g b h => by cases h), fun l w' hl hdp hJ hg ρ h1 h2 h3 h4 h5 => ?_⟩
      have HJ := hid hJ
      clear hJ
      have f14 : ρ (.tmp 14) = .pointer (some ⟨C, 0, none⟩) := h4 9 14 (by kernel_rfl) (by kernel_rfl)
      clear h4 h5 hg
      unfold OpY
      go_simp
      first | exact ⟨rfl, HJ.out.put 10 (by decide)⟩ | exact ⟨Or.inr rfl, HJ.out.put 10 (by decide)⟩
    · refine ⟨(fun g b h => by cases h), fun l w' hl hdp hJ hg ρ h1 h2 h3 h4 h5 => ?_⟩
      have HJ := hid hJ
      clear hJ
      have f15 : ρ (.tmp 15) = .pointer (some ⟨C, 0, none⟩) := h4 10 15 (by kernel_rfl) (by kernel_rfl)
      clear h4 h5 hg
      unfold OpY
      go_simp
      first | exact ⟨rfl, HJ.out.put 11 (by decide)⟩ | exact ⟨Or.inr rfl, HJ.out.put 11 (by decide)⟩
    · refine ⟨(fun g b h => by cases h), fun l w' hl hdp hJ hg ρ h1 h2 h3 h4 h5 => ?_⟩
      have HJ := hid hJ
      clear hJ
      have f16 : ρ (.tmp 16) = .pointer (some ⟨C, 2, none⟩) := h4 11 16 (by kernel_rfl) (by kernel_rfl)
      have c : w'.cell? ⟨C, 2, none⟩ = some (.int .i64 (S)) := (HJ.out.turn.blk (by simp) HBC.out).cell 2 rfl
      clear h4 h5 hg
      unfold OpY
      go_simp
      first | exact ⟨rfl, HJ.out.put 12 (by decide)⟩ | exact ⟨Or.inr rfl, HJ.out.put 12 (by decide)⟩
    · refine ⟨(fun g b h => by cases h), fun l w' hl hdp hJ hg ρ h1 h2 h3 h4 h5 => ?_⟩
      have HJ := hid hJ
      clear hJ
      have f5 : ρ (.tmp 5) = .agg #[.int .u8 kind, .int .i64 (th : Int), .int .i64 tx, .int .i64 at_, .int .i64 v, .int .i64 x, .int .u8 why] := h4 0 5 (by kernel_rfl) (by kernel_rfl)
      have f9 : ρ (.tmp 9) = .int .i64 (T) := h4 4 9 (by kernel_rfl) (by kernel_rfl)
      have f13 : ρ (.tmp 13) = .int .i64 (V) := h4 8 13 (by kernel_rfl) (by kernel_rfl)
      have f17 : ρ (.tmp 17) = .int .i64 (S) := h4 12 17 (by kernel_rfl) (by kernel_rfl)
      clear h4 h5 hg
      unfold OpY
      go_simp
      unfold OpR
      have h0 := HJ.out.pre hl
      subst h0
      refine (HN.out _ (ext_drew (ext_refl _))).mono ?_
      rintro e' w'' ⟨rfl, hb'⟩
      first | exact ⟨_, rfl, rfl, LQ.call trivial (Turn.of_below hb')⟩ | exact ⟨_, rfl, Or.inr rfl, LQ.call trivial (Turn.of_below hb')⟩
    · refine ⟨(fun g b h => by cases h), fun l w' hl hdp hJ hg ρ h1 h2 h3 h4 h5 => ?_⟩
      have HJ := hid hJ
      clear hJ
      have f18 : ρ (.tmp 18) = .bool m := h4 13 18 (by kernel_rfl) (by kernel_rfl)
      clear h4 h5 hg
      unfold OpY
      go_simp
      first | exact ⟨rfl, HJ.out.put 14 (by decide)⟩ | exact ⟨Or.inr rfl, HJ.out.put 14 (by decide)⟩
  case hdone =>
    intro W1 hJ
    have HF := hid (hJ.mid rfl)
    clear hJ
    have hlow1 : Below W.heap.size W W1 := HLOW.out.trans (HF.out.2.below (by simp) (HLOW.out.size))
    have HLOW1 := hid hlow1
    have hbe := HF.out.2.blk (by simp) HBE.out
    have hbc := HF.out.2.blk (by simp) HBC.out
    have HBE1 := hid hbe
    have HBC1 := hid hbc
    clear hlow1 hbe hbc HF HN HBE HBC HLOW HWB
    cases m with
    | false =>
      obtain rfl : mn = true := by simpa using hmn.symm
      clear hmn
      go_wp2_with fail
      go_ret
      exact ⟨by rw [HRES.out] <;> simp, HLOW1.out⟩
    | true =>
      obtain rfl : mn = false := by simpa using hmn.symm
      obtain ⟨⟨-, t6, -⟩, ⟨-, -, -, -, t2, -⟩, -⟩ := HIN.out rfl
      have jt0 : (0 : Int) ≤ (th : Int) := by omega
      have jt6 : (th : Int) < 6 := by omega
      have HTH := hid (show th < 6 by omega)
      have q0 := HBE1.out.cell 0 (v := .int .u8 kind) rfl
      have q1 := HBE1.out.cell 1 (v := .int .i64 (th : Int)) rfl
      have q4 := HBE1.out.cell 4 (v := .int .i64 v) rfl
      have c4 := HBC1.out.cell 4 (v := .int .i64 c.clock) rfl
      have cb := HBC1.out.cell (5 + th) (cdr_begun T V S c HTH.out)
      have cu := HBC1.out.cell (11 + th) (cdr_bumped T V S c HTH.out)
      clear hmn t6 t2
      by_cases k1 : kind = 1
      · subst k1
        go_wp2_with fail
        go_quiet (fail)
        go_wp2_with fail
        go_ret
        exact ⟨by rw [HRES.out] <;> simp, HLOW1.out.trans (ext_drewN (ext_refl _) _ |>.mono HLOW1.out.size)⟩
      by_cases k2 : kind = 2
      · subst k2
        go_wp2_with fail
        go_quiet (fail)
        go_wp2_with fail
        go_ret
        exact ⟨by rw [HRES.out] <;> simp, HLOW1.out.trans (ext_drewN (ext_refl _) _ |>.mono HLOW1.out.size)⟩
      by_cases k5 : kind = 5
      · subst k5
        go_wp2_with fail
        go_quiet (fail)
        go_wp2_with fail
        go_ret
        exact ⟨by rw [HRES.out] <;> simp, HLOW1.out.trans (ext_drewN (ext_refl _) _ |>.mono HLOW1.out.size)⟩
      by_cases k7 : kind = 7
      · subst k7
        by_cases hv : v = 0
        · subst hv
          go_wp2_with fail
          go_quiet (fail)
          go_wp2_with fail
          go_ret
          exact ⟨by rw [HRES.out] <;> simp, HLOW1.out.trans (ext_drewN (ext_refl _) _ |>.mono HLOW1.out.size)⟩
        · have g1 : (v == 0) = false := by simp [hv]
          have g2 : decide (v = 0) = false := by simp [hv]
          have HV := hid hv
          clear hv
          go_wp2_with fail
          go_quiet (fail)
          go_wp2_with fail
          go_ret
          exact ⟨by rw [HRES.out] <;> simp [HV.out] <;> rfl, HLOW1.out.trans (ext_drewN (ext_refl _) _ |>.mono HLOW1.out.size)⟩
      have g1 : (kind == 1) = false := by simp [k1]
      have g2 : (kind == 2) = false := by simp [k2]
      have g5 : (kind == 5) = false := by simp [k5]
      have g7 : (kind == 7) = false := by simp [k7]
      have f1 : decide (kind = 1) = false := by simp [k1]
      have f2 : decide (kind = 2) = false := by simp [k2]
      have f5 : decide (kind = 5) = false := by simp [k5]
      have f7 : decide (kind = 7) = false := by simp [k7]
      have HK := hid (And.intro k1 (And.intro k2 (And.intro k5 k7)))
      clear k1 k2 k5 k7
      go_wp2_with fail
      go_ret
      exact ⟨by rw [HRES.out] <;> simp [HK.out.1, HK.out.2.1, HK.out.2.2.1, HK.out.2.2.2], HLOW1.out⟩
end Go.Proofs.YtokkafiphchejaaDoor
/-
  Walk: what a coder knows of an event (its regions are printed by gen_line7.py).
-/
namespace Go.Proofs.YtokkafiphchejaaDoor
set_option linter.unusedVariables false
set_option linter.unusedSimpArgs false
set_option linter.unusedVariables false
open Go Go.RowKit
theorem set_begun (T V S v : Int) (c : Cdr) {j : Nat} (h : j < 6) : (cdrA T V S c).setIfInBounds (5 + j) (.int .i64 v) = cdrA T V S { c with begun := upd c.begun j v } := by
  have : j = 0 ∨ j = 1 ∨ j = 2 ∨ j = 3 ∨ j = 4 ∨ j = 5 := by omega
  rcases this with rfl | rfl | rfl | rfl | rfl | rfl <;> rfl
theorem set_bumped (T V S v : Int) (c : Cdr) {j : Nat} (h : j < 6) : (cdrA T V S c).setIfInBounds (11 + j) (.int .i64 v) = cdrA T V S { c with bumped := upd c.bumped j v } := by
  have : j = 0 ∨ j = 1 ∨ j = 2 ∨ j = 3 ∨ j = 4 ∨ j = 5 := by omega
  rcases this with rfl | rfl | rfl | rfl | rfl | rfl <;> rfl
theorem set_x (T V S v : Int) (c : Cdr) {j : Nat} (h : j < 32) : (cdrA T V S c).setIfInBounds (17 + j) (.int .i64 v) = cdrA T V S { c with x := upd c.x j v } := by
  have : j = 0 ∨ j = 1 ∨ j = 2 ∨ j = 3 ∨ j = 4 ∨ j = 5 ∨ j = 6 ∨ j = 7 ∨ j = 8 ∨ j = 9 ∨ j = 10 ∨ j = 11 ∨ j = 12 ∨ j = 13 ∨ j = 14 ∨ j = 15 ∨ j = 16 ∨ j = 17 ∨ j = 18 ∨ j = 19 ∨ j = 20 ∨ j = 21 ∨ j = 22 ∨ j = 23 ∨ j = 24 ∨ j = 25 ∨ j = 26 ∨ j = 27 ∨ j = 28 ∨ j = 29 ∨ j = 30 ∨ j = 31 := by omega
  rcases this with rfl | rfl | rfl | rfl | rfl | rfl | rfl | rfl | rfl | rfl | rfl | rfl | rfl | rfl | rfl | rfl | rfl | rfl | rfl | rfl | rfl | rfl | rfl | rfl | rfl | rfl | rfl | rfl | rfl | rfl | rfl | rfl <;> rfl
/-- What knows tells. -/
def KnowsP (T V S : Int) (c : Cdr) (C : Nat) (W : World) (e' : Ending) (W' : World) : Prop := e' = .returned (.tuple #[]) ∧ Blk W' C (cdrA T V S c) 74 ∧ Turn [C] W W'
set_option maxRecDepth 100000 in
set_option maxHeartbeats 4000000 in
theorem knows_any (T V S : Int) (c : Cdr) (kind tx at_ v x why : Int) (th q : Nat) (C : Nat) (W : World) (hC : Blk W C (cdrA T V S c) 74) (hth : th < 6) (hat : at_ = (q : Int)) (hq : kind = 3 ∨ kind = 8 → q < 32) :
    Calls Tryd.prog 37 #[.pointer (some ⟨C, 0, none⟩), evA ⟨kind, (th : Int), tx, at_, v, x, why⟩] W (KnowsP T V S (knowsC c ⟨kind, (th : Int), tx, at_, v, x, why⟩) C W) := by
  have HAT := hid hat
  clear hat
  have hbe := Blk.new W #[.int .u8 kind, .int .i64 (th : Int), .int .i64 tx, .int .i64 at_, .int .i64 v, .int .i64 x, .int .u8 why] 33
  have e1 := hbe.cell 1 (v := .int .i64 (th : Int)) rfl
  have c3w := hC.cell 3 (v := .int .i64 c.last) rfl
  have z3w := hC.free 3
  have hcl := hC.lt
  have hcn : C ≠ W.heap.size := by omega
  have HEC := hid (show W.heap.size ≠ C by omega)
  have hbs : Blk (W.setCell ⟨C, 3, none⟩ (.int .i64 (th : Int))) C (cdrA T V S { c with last := th }) 74 := hC.set 3 (.int .i64 (th : Int))
  have hbe2 : Blk ((W.setCell ⟨C, 3, none⟩ (.int .i64 (th : Int))).alloc (.cells #[.int .u8 kind, .int .i64 (th : Int), .int .i64 tx, .int .i64 at_, .int .i64 v, .int .i64 x, .int .u8 why] 33)) W.heap.size #[.int .u8 kind, .int .i64 (th : Int), .int .i64 tx, .int .i64 at_, .int .i64 v, .int .i64 x, .int .u8 why] 33 := Blk.new' _ _ _ (by simp [World.setCell])
  have hbc2 := hbs.alloc (.cells #[.int .u8 kind, .int .i64 (th : Int), .int .i64 tx, .int .i64 at_, .int .i64 v, .int .i64 x, .int .u8 why] 33)
  have ht2 : Turn [C] W ((W.setCell ⟨C, 3, none⟩ (.int .i64 (th : Int))).alloc (.cells #[.int .u8 kind, .int .i64 (th : Int), .int .i64 tx, .int .i64 at_, .int .i64 v, .int .i64 x, .int .u8 why] 33)) := ((Turn.refl _ _).setCell (Or.inl (by simp)) _).alloc _
  have e0 := hbe2.cell 0 (v := .int .u8 kind) rfl
  have HTH := hid hth
  have jt0 : (0 : Int) ≤ (th : Int) := by omega
  have jt6 : (th : Int) < 6 := by omega
  have HBE := hid hbe2
  have HBC := hid hbc2
  have HT2 := hid ht2
  dsimp only [evA]
  clear hC hbe hbs hbe2 hbc2 ht2 hth
  unfold KnowsP
  by_cases k1 : kind = 1
  · subst k1
    clear hq
    go_enter Tryd.func37, Tryd.ntmps37
    go_wp2_with fail
    generalize hW2 : (W.setCell ⟨C, 3, none⟩ (.int .i64 (th : Int))).alloc (.cells #[.int .u8 1, .int .i64 (th : Int), .int .i64 tx, .int .i64 at_, .int .i64 v, .int .i64 x, .int .u8 why] 33) = W2 at *
    generalize hEE : W.heap.size = E at *
    clear e0 e1 c3w z3w hcl hcn hW2 hEE
    apply wp_region_knownJ (fun qq => ([.pointer (some ⟨C, 0, none⟩), .pointer (some ⟨C, 0, none⟩), .pointer (some ⟨E, 1, none⟩), .int .i64 ((th : Int)), .pointer (some ⟨E, 4, none⟩), .int .i64 (v), .pointer (some ⟨E, 4, none⟩), .int .i64 (v), .pointer (some ⟨C, 0, none⟩), .pointer (some ⟨C, 4, none⟩), undef, .pointer (some ⟨C, 0, none⟩), .pointer (some ⟨C, 5, none⟩), .pointer (some ⟨C, 5 + th, none⟩), undef] : List Value).getD qq undef) (TwoSt W2.drew C 4 (5 + th) (.int .i64 v) (.int .i64 v) 10 14)
    focus (simp [putAll, dstOf, Act.put, List.getD]; rfl)
    case hm => kernel_rfl
    case hd => kernel_rfl
    case hb => kernel_rfl
    case hng => kernel_rfl
    case hsz => kernel_rfl
    case hext => exact fun l l' w h H => H.ext (by decide) (by decide) h
    case h0 => exact TwoSt.start
    case hstep =>
      refine ⟨?_, ?_, ?_, ?_, ?_, ?_, ?_, ?_, ?_, ?_, ?_, ?_, ?_, ?_, ?_,  trivial⟩
      · refine ⟨(fun g b h => by cases h), fun l w' hl hdp hJ hg ρ h1 h2 h3 h4 h5 => ?_⟩
        have HJ := hid hJ
        clear hJ
        have f0 : ρ (.tmp 0) = .pointer (some ⟨C, 0, none⟩) := h5 0 (by kernel_rfl)
        clear h4 h5 hg
        unfold OpY
        go_simp
        first | exact ⟨rfl, HJ.out.other 0 (by decide) (by decide)⟩ | exact ⟨Or.inr rfl, HJ.out.other 0 (by decide) (by decide)⟩
      · refine ⟨(fun g b h => by cases h), fun l w' hl hdp hJ hg ρ h1 h2 h3 h4 h5 => ?_⟩
        have HJ := hid hJ
        clear hJ
        have f0 : ρ (.tmp 0) = .pointer (some ⟨C, 0, none⟩) := h5 0 (by kernel_rfl)
        clear h4 h5 hg
        unfold OpY
        go_simp
        first | exact ⟨rfl, HJ.out.other 1 (by decide) (by decide)⟩ | exact ⟨Or.inr rfl, HJ.out.other 1 (by decide) (by decide)⟩
      · refine ⟨(fun g b h => by cases h), fun l w' hl hdp hJ hg ρ h1 h2 h3 h4 h5 => ?_⟩
        have HJ := hid hJ
        clear hJ
        have f3 : ρ (.tmp 3) = .pointer (some ⟨E, 0, none⟩) := h5 3 (by kernel_rfl)
        clear h4 h5 hg
        unfold OpY
        go_simp
        first | exact ⟨rfl, HJ.out.other 2 (by decide) (by decide)⟩ | exact ⟨Or.inr rfl, HJ.out.other 2 (by decide) (by decide)⟩
      · refine ⟨(fun g b h => by cases h), fun l w' hl hdp hJ hg ρ h1 h2 h3 h4 h5 => ?_⟩
        have HJ := hid hJ
        clear hJ
        have f15 : ρ (.tmp 15) = .pointer (some ⟨E, 1, none⟩) := h4 2 15 (by kernel_rfl) (by kernel_rfl)
        have c := (HJ.out.far (HBE.out.below (ext_drew (ext_refl _))) HEC.out).cell 1 (v := .int .i64 (th : Int)) rfl
        clear h4 h5 hg
        unfold OpY
        go_simp
        first | exact ⟨rfl, HJ.out.other 3 (by decide) (by decide)⟩ | exact ⟨Or.inr rfl, HJ.out.other 3 (by decide) (by decide)⟩
      · refine ⟨(fun g b h => by cases h), fun l w' hl hdp hJ hg ρ h1 h2 h3 h4 h5 => ?_⟩
        have HJ := hid hJ
        clear hJ
        have f3 : ρ (.tmp 3) = .pointer (some ⟨E, 0, none⟩) := h5 3 (by kernel_rfl)
        clear h4 h5 hg
        unfold OpY
        go_simp
        first | exact ⟨rfl, HJ.out.other 4 (by decide) (by decide)⟩ | exact ⟨Or.inr rfl, HJ.out.other 4 (by decide) (by decide)⟩
      · refine ⟨(fun g b h => by cases h), fun l w' hl hdp hJ hg ρ h1 h2 h3 h4 h5 => ?_⟩
        have HJ := hid hJ
        clear hJ
        have f17 : ρ (.tmp 17) = .pointer (some ⟨E, 4, none⟩) := h4 4 17 (by kernel_rfl) (by kernel_rfl)
        have c := (HJ.out.far (HBE.out.below (ext_drew (ext_refl _))) HEC.out).cell 4 (v := .int .i64 v) rfl
        clear h4 h5 hg
        unfold OpY
        go_simp
        first | exact ⟨rfl, HJ.out.other 5 (by decide) (by decide)⟩ | exact ⟨Or.inr rfl, HJ.out.other 5 (by decide) (by decide)⟩
      · refine ⟨(fun g b h => by cases h), fun l w' hl hdp hJ hg ρ h1 h2 h3 h4 h5 => ?_⟩
        have HJ := hid hJ
        clear hJ
        have f3 : ρ (.tmp 3) = .pointer (some ⟨E, 0, none⟩) := h5 3 (by kernel_rfl)
        clear h4 h5 hg
        unfold OpY
        go_simp
        first | exact ⟨rfl, HJ.out.other 6 (by decide) (by decide)⟩ | exact ⟨Or.inr rfl, HJ.out.other 6 (by decide) (by decide)⟩
      · refine ⟨(fun g b h => by cases h), fun l w' hl hdp hJ hg ρ h1 h2 h3 h4 h5 => ?_⟩
        have HJ := hid hJ
        clear hJ
        have f19 : ρ (.tmp 19) = .pointer (some ⟨E, 4, none⟩) := h4 6 19 (by kernel_rfl) (by kernel_rfl)
        have c := (HJ.out.far (HBE.out.below (ext_drew (ext_refl _))) HEC.out).cell 4 (v := .int .i64 v) rfl
        clear h4 h5 hg
        unfold OpY
        go_simp
        first | exact ⟨rfl, HJ.out.other 7 (by decide) (by decide)⟩ | exact ⟨Or.inr rfl, HJ.out.other 7 (by decide) (by decide)⟩
      · refine ⟨(fun g b h => by cases h), fun l w' hl hdp hJ hg ρ h1 h2 h3 h4 h5 => ?_⟩
        have HJ := hid hJ
        clear hJ
        have f13 : ρ (.tmp 13) = .pointer (some ⟨C, 0, none⟩) := h4 0 13 (by kernel_rfl) (by kernel_rfl)
        clear h4 h5 hg
        unfold OpY
        go_simp
        first | exact ⟨rfl, HJ.out.other 8 (by decide) (by decide)⟩ | exact ⟨Or.inr rfl, HJ.out.other 8 (by decide) (by decide)⟩
      · refine ⟨(fun g b h => by cases h), fun l w' hl hdp hJ hg ρ h1 h2 h3 h4 h5 => ?_⟩
        have HJ := hid hJ
        clear hJ
        have f21 : ρ (.tmp 21) = .pointer (some ⟨C, 0, none⟩) := h4 8 21 (by kernel_rfl) (by kernel_rfl)
        clear h4 h5 hg
        unfold OpY
        go_simp
        first | exact ⟨rfl, HJ.out.other 9 (by decide) (by decide)⟩ | exact ⟨Or.inr rfl, HJ.out.other 9 (by decide) (by decide)⟩
      · refine ⟨(fun g b h => by cases h), fun l w' hl hdp hJ hg ρ h1 h2 h3 h4 h5 => ?_⟩
        have HJ := hid hJ
        clear hJ
        have f22 : ρ (.tmp 22) = .pointer (some ⟨C, 4, none⟩) := h4 9 22 (by kernel_rfl) (by kernel_rfl)
        have f18 : ρ (.tmp 18) = .int .i64 (v) := h4 5 18 (by kernel_rfl) (by kernel_rfl)
        obtain ⟨hw, hq⟩ := HJ.out.first (by decide) hl
        subst hw
        have HQ := hid hq
        have cc := (HBC.out.below (ext_drew (ext_refl _))).cell 4 (v := .int .i64 (c.clock)) rfl
        have zz := (HBC.out.below (ext_drew (ext_refl _))).free 4
        clear hq
        clear h4 h5 hg
        unfold OpY
        go_simp
        exact HQ.out
      · refine ⟨(fun g b h => by cases h), fun l w' hl hdp hJ hg ρ h1 h2 h3 h4 h5 => ?_⟩
        have HJ := hid hJ
        clear hJ
        have f14 : ρ (.tmp 14) = .pointer (some ⟨C, 0, none⟩) := h4 1 14 (by kernel_rfl) (by kernel_rfl)
        clear h4 h5 hg
        unfold OpY
        go_simp
        first | exact ⟨rfl, HJ.out.other 11 (by decide) (by decide)⟩ | exact ⟨Or.inr rfl, HJ.out.other 11 (by decide) (by decide)⟩
      · refine ⟨(fun g b h => by cases h), fun l w' hl hdp hJ hg ρ h1 h2 h3 h4 h5 => ?_⟩
        have HJ := hid hJ
        clear hJ
        have f23 : ρ (.tmp 23) = .pointer (some ⟨C, 0, none⟩) := h4 11 23 (by kernel_rfl) (by kernel_rfl)
        clear h4 h5 hg
        unfold OpY
        go_simp
        first | exact ⟨rfl, HJ.out.other 12 (by decide) (by decide)⟩ | exact ⟨Or.inr rfl, HJ.out.other 12 (by decide) (by decide)⟩
      · refine ⟨(fun g b h => by cases h), fun l w' hl hdp hJ hg ρ h1 h2 h3 h4 h5 => ?_⟩
        have HJ := hid hJ
        clear hJ
        have f24 : ρ (.tmp 24) = .pointer (some ⟨C, 5, none⟩) := h4 12 24 (by kernel_rfl) (by kernel_rfl)
        have f16 : ρ (.tmp 16) = .int .i64 ((th : Int)) := h4 3 16 (by kernel_rfl) (by kernel_rfl)
        clear h4 h5 hg
        unfold OpY
        go_simp
        first | exact ⟨rfl, HJ.out.other 13 (by decide) (by decide)⟩ | exact ⟨Or.inr rfl, HJ.out.other 13 (by decide) (by decide)⟩
      · refine ⟨(fun g b h => by cases h), fun l w' hl hdp hJ hg ρ h1 h2 h3 h4 h5 => ?_⟩
        have HJ := hid hJ
        clear hJ
        have f25 : ρ (.tmp 25) = .pointer (some ⟨C, 5 + th, none⟩) := h4 13 25 (by kernel_rfl) (by kernel_rfl)
        have f20 : ρ (.tmp 20) = .int .i64 (v) := h4 7 20 (by kernel_rfl) (by kernel_rfl)
        obtain ⟨hw, hq⟩ := HJ.out.second (by decide) (hdp 10 (by kernel_rfl)) hl
        subst hw
        have HQ := hid hq
        have cc2 := HBC.out.cell (5 + th) (cdr_begun T V S { c with last := th } HTH.out)
        have zz2 := HBC.out.free (5 + th)
        have cc := ((HBC.out.below (ext_drew (ext_refl _))).set 4 (.int .i64 v)).cell (5 + th) (cdr_begun T V S { c with last := th, clock := v } HTH.out)
        have zz := ((HBC.out.below (ext_drew (ext_refl _))).set 4 (.int .i64 v)).free (5 + th)
        clear hq
        clear h4 h5 hg
        unfold OpY
        go_simp
        exact HQ.out
    case hdone =>
      intro W3 hJ
      have hw := hJ.done
      clear hJ
      have hb3 := ((HBC.out.below (ext_drew (ext_refl _))).set 4 (.int .i64 v))
      have hb4 : Blk _ C (cdrA T V S { c with last := th, clock := v }) 74 := hb3
      have hb5 := hb4.set (5 + th) (.int .i64 v)
      rw [set_begun T V S v _ HTH.out] at hb5
      have hb6 : Blk W3 C (cdrA T V S (knowsC c ⟨1, (th : Int), tx, at_, v, x, why⟩)) 74 := by rw [hw]; exact hb5
      have ht3 : Turn [C] W W3 := by rw [hw]; exact ((HT2.out.drew).setCell (Or.inl (by simp)) _).setCell (Or.inl (by simp)) _
      have HB6 := hid hb6
      have HT3 := hid ht3
      clear hb3 hb4 hb5 hb6 ht3 hw
      go_wp2_with fail
      go_end0
      exact ⟨rfl, HB6.out, HT3.out⟩
  by_cases k5 : kind = 5
  · subst k5
    clear hq
    go_enter Tryd.func37, Tryd.ntmps37
    go_wp2_with fail
    generalize hW2 : (W.setCell ⟨C, 3, none⟩ (.int .i64 (th : Int))).alloc (.cells #[.int .u8 5, .int .i64 (th : Int), .int .i64 tx, .int .i64 at_, .int .i64 v, .int .i64 x, .int .u8 why] 33) = W2 at *
    generalize hEE : W.heap.size = E at *
    clear e0 e1 c3w z3w hcl hcn hW2 hEE
    apply wp_region_knownJ (fun qq => ([.pointer (some ⟨C, 0, none⟩), .pointer (some ⟨C, 0, none⟩), .pointer (some ⟨E, 1, none⟩), .int .i64 ((th : Int)), .pointer (some ⟨E, 4, none⟩), .int .i64 (v), .pointer (some ⟨E, 4, none⟩), .int .i64 (v), .pointer (some ⟨C, 0, none⟩), .pointer (some ⟨C, 4, none⟩), undef, .pointer (some ⟨C, 0, none⟩), .pointer (some ⟨C, 11, none⟩), .pointer (some ⟨C, 11 + th, none⟩), undef] : List Value).getD qq undef) (TwoSt W2.drew C 4 (11 + th) (.int .i64 v) (.int .i64 v) 10 14)
    focus (simp [putAll, dstOf, Act.put, List.getD]; rfl)
    case hm => kernel_rfl
    case hd => kernel_rfl
    case hb => kernel_rfl
    case hng => kernel_rfl
    case hsz => kernel_rfl
    case hext => exact fun l l' w h H => H.ext (by decide) (by decide) h
    case h0 => exact TwoSt.start
    case hstep =>
      refine ⟨?_, ?_, ?_, ?_, ?_, ?_, ?_, ?_, ?_, ?_, ?_, ?_, ?_, ?_, ?_,  trivial⟩
      · refine ⟨(fun g b h => by cases h), fun l w' hl hdp hJ hg ρ h1 h2 h3 h4 h5 => ?_⟩
        have HJ := hid hJ
        clear hJ
        have f0 : ρ (.tmp 0) = .pointer (some ⟨C, 0, none⟩) := h5 0 (by kernel_rfl)
        clear h4 h5 hg
        unfold OpY
        go_simp
        first | exact ⟨rfl, HJ.out.other 0 (by decide) (by decide)⟩ | exact ⟨Or.inr rfl, HJ.out.other 0 (by decide) (by decide)⟩
      · refine ⟨(fun g b h => by cases h), fun l w' hl hdp hJ hg ρ h1 h2 h3 h4 h5 => ?_⟩
        have HJ := hid hJ
        clear hJ
        have f0 : ρ (.tmp 0) = .pointer (some ⟨C, 0, none⟩) := h5 0 (by kernel_rfl)
        clear h4 h5 hg
        unfold OpY
        go_simp
        first | exact ⟨rfl, HJ.out.other 1 (by decide) (by decide)⟩ | exact ⟨Or.inr rfl, HJ.out.other 1 (by decide) (by decide)⟩
      · refine ⟨(fun g b h => by cases h), fun l w' hl hdp hJ hg ρ h1 h2 h3 h4 h5 => ?_⟩
        have HJ := hid hJ
        clear hJ
        have f3 : ρ (.tmp 3) = .pointer (some ⟨E, 0, none⟩) := h5 3 (by kernel_rfl)
        clear h4 h5 hg
        unfold OpY
        go_simp
        first | exact ⟨rfl, HJ.out.other 2 (by decide) (by decide)⟩ | exact ⟨Or.inr rfl, HJ.out.other 2 (by decide) (by decide)⟩
      · refine ⟨(fun g b h => by cases h), fun l w' hl hdp hJ hg ρ h1 h2 h3 h4 h5 => ?_⟩
        have HJ := hid hJ
        clear hJ
        have f30 : ρ (.tmp 30) = .pointer (some ⟨E, 1, none⟩) := h4 2 30 (by kernel_rfl) (by kernel_rfl)
        have c := (HJ.out.far (HBE.out.below (ext_drew (ext_refl _))) HEC.out).cell 1 (v := .int .i64 (th : Int)) rfl
        clear h4 h5 hg
        unfold OpY
        go_simp
        first | exact ⟨rfl, HJ.out.other 3 (by decide) (by decide)⟩ | exact ⟨Or.inr rfl, HJ.out.other 3 (by decide) (by decide)⟩
      · refine ⟨(fun g b h => by cases h), fun l w' hl hdp hJ hg ρ h1 h2 h3 h4 h5 => ?_⟩
        have HJ := hid hJ
        clear hJ
        have f3 : ρ (.tmp 3) = .pointer (some ⟨E, 0, none⟩) := h5 3 (by kernel_rfl)
        clear h4 h5 hg
        unfold OpY
        go_simp
        first | exact ⟨rfl, HJ.out.other 4 (by decide) (by decide)⟩ | exact ⟨Or.inr rfl, HJ.out.other 4 (by decide) (by decide)⟩
      · refine ⟨(fun g b h => by cases h), fun l w' hl hdp hJ hg ρ h1 h2 h3 h4 h5 => ?_⟩
        have HJ := hid hJ
        clear hJ
        have f32 : ρ (.tmp 32) = .pointer (some ⟨E, 4, none⟩) := h4 4 32 (by kernel_rfl) (by kernel_rfl)
        have c := (HJ.out.far (HBE.out.below (ext_drew (ext_refl _))) HEC.out).cell 4 (v := .int .i64 v) rfl
        clear h4 h5 hg
        unfold OpY
        go_simp
        first | exact ⟨rfl, HJ.out.other 5 (by decide) (by decide)⟩ | exact ⟨Or.inr rfl, HJ.out.other 5 (by decide) (by decide)⟩
      · refine ⟨(fun g b h => by cases h), fun l w' hl hdp hJ hg ρ h1 h2 h3 h4 h5 => ?_⟩
        have HJ := hid hJ
        clear hJ
        have f3 : ρ (.tmp 3) = .pointer (some ⟨E, 0, none⟩) := h5 3 (by kernel_rfl)
        clear h4 h5 hg
        unfold OpY
        go_simp
        first | exact ⟨rfl, HJ.out.other 6 (by decide) (by decide)⟩ | exact ⟨Or.inr rfl, HJ.out.other 6 (by decide) (by decide)⟩
      · refine ⟨(fun g b h => by cases h), fun l w' hl hdp hJ hg ρ h1 h2 h3 h4 h5 => ?_⟩
        have HJ := hid hJ
        clear hJ
        have f34 : ρ (.tmp 34) = .pointer (some ⟨E, 4, none⟩) := h4 6 34 (by kernel_rfl) (by kernel_rfl)
        have c := (HJ.out.far (HBE.out.below (ext_drew (ext_refl _))) HEC.out).cell 4 (v := .int .i64 v) rfl
        clear h4 h5 hg
        unfold OpY
        go_simp
        first | exact ⟨rfl, HJ.out.other 7 (by decide) (by decide)⟩ | exact ⟨Or.inr rfl, HJ.out.other 7 (by decide) (by decide)⟩
      · refine ⟨(fun g b h => by cases h), fun l w' hl hdp hJ hg ρ h1 h2 h3 h4 h5 => ?_⟩
        have HJ := hid hJ
        clear hJ
        have f28 : ρ (.tmp 28) = .pointer (some ⟨C, 0, none⟩) := h4 0 28 (by kernel_rfl) (by kernel_rfl)
        clear h4 h5 hg
        unfold OpY
        go_simp
        first | exact ⟨rfl, HJ.out.other 8 (by decide) (by decide)⟩ | exact ⟨Or.inr rfl, HJ.out.other 8 (by decide) (by decide)⟩
      · refine ⟨(fun g b h => by cases h), fun l w' hl hdp hJ hg ρ h1 h2 h3 h4 h5 => ?_⟩
        have HJ := hid hJ
        clear hJ
        have f36 : ρ (.tmp 36) = .pointer (some ⟨C, 0, none⟩) := h4 8 36 (by kernel_rfl) (by kernel_rfl)
        clear h4 h5 hg
        unfold OpY
        go_simp
        first | exact ⟨rfl, HJ.out.other 9 (by decide) (by decide)⟩ | exact ⟨Or.inr rfl, HJ.out.other 9 (by decide) (by decide)⟩
      · refine ⟨(fun g b h => by cases h), fun l w' hl hdp hJ hg ρ h1 h2 h3 h4 h5 => ?_⟩
        have HJ := hid hJ
        clear hJ
        have f37 : ρ (.tmp 37) = .pointer (some ⟨C, 4, none⟩) := h4 9 37 (by kernel_rfl) (by kernel_rfl)
        have f33 : ρ (.tmp 33) = .int .i64 (v) := h4 5 33 (by kernel_rfl) (by kernel_rfl)
        obtain ⟨hw, hq⟩ := HJ.out.first (by decide) hl
        subst hw
        have HQ := hid hq
        have cc := (HBC.out.below (ext_drew (ext_refl _))).cell 4 (v := .int .i64 (c.clock)) rfl
        have zz := (HBC.out.below (ext_drew (ext_refl _))).free 4
        clear hq
        clear h4 h5 hg
        unfold OpY
        go_simp
        exact HQ.out
      · refine ⟨(fun g b h => by cases h), fun l w' hl hdp hJ hg ρ h1 h2 h3 h4 h5 => ?_⟩
        have HJ := hid hJ
        clear hJ
        have f29 : ρ (.tmp 29) = .pointer (some ⟨C, 0, none⟩) := h4 1 29 (by kernel_rfl) (by kernel_rfl)
        clear h4 h5 hg
        unfold OpY
        go_simp
        first | exact ⟨rfl, HJ.out.other 11 (by decide) (by decide)⟩ | exact ⟨Or.inr rfl, HJ.out.other 11 (by decide) (by decide)⟩
      · refine ⟨(fun g b h => by cases h), fun l w' hl hdp hJ hg ρ h1 h2 h3 h4 h5 => ?_⟩
        have HJ := hid hJ
        clear hJ
        have f38 : ρ (.tmp 38) = .pointer (some ⟨C, 0, none⟩) := h4 11 38 (by kernel_rfl) (by kernel_rfl)
        clear h4 h5 hg
        unfold OpY
        go_simp
        first | exact ⟨rfl, HJ.out.other 12 (by decide) (by decide)⟩ | exact ⟨Or.inr rfl, HJ.out.other 12 (by decide) (by decide)⟩
      · refine ⟨(fun g b h => by cases h), fun l w' hl hdp hJ hg ρ h1 h2 h3 h4 h5 => ?_⟩
        have HJ := hid hJ
        clear hJ
        have f39 : ρ (.tmp 39) = .pointer (some ⟨C, 11, none⟩) := h4 12 39 (by kernel_rfl) (by kernel_rfl)
        have f31 : ρ (.tmp 31) = .int .i64 ((th : Int)) := h4 3 31 (by kernel_rfl) (by kernel_rfl)
        clear h4 h5 hg
        unfold OpY
        go_simp
        first | exact ⟨rfl, HJ.out.other 13 (by decide) (by decide)⟩ | exact ⟨Or.inr rfl, HJ.out.other 13 (by decide) (by decide)⟩
      · refine ⟨(fun g b h => by cases h), fun l w' hl hdp hJ hg ρ h1 h2 h3 h4 h5 => ?_⟩
        have HJ := hid hJ
        clear hJ
        have f40 : ρ (.tmp 40) = .pointer (some ⟨C, 11 + th, none⟩) := h4 13 40 (by kernel_rfl) (by kernel_rfl)
        have f35 : ρ (.tmp 35) = .int .i64 (v) := h4 7 35 (by kernel_rfl) (by kernel_rfl)
        obtain ⟨hw, hq⟩ := HJ.out.second (by decide) (hdp 10 (by kernel_rfl)) hl
        subst hw
        have HQ := hid hq
        have cc2 := HBC.out.cell (11 + th) (cdr_bumped T V S { c with last := th } HTH.out)
        have zz2 := HBC.out.free (11 + th)
        have cc := ((HBC.out.below (ext_drew (ext_refl _))).set 4 (.int .i64 v)).cell (11 + th) (cdr_bumped T V S { c with last := th, clock := v } HTH.out)
        have zz := ((HBC.out.below (ext_drew (ext_refl _))).set 4 (.int .i64 v)).free (11 + th)
        clear hq
        clear h4 h5 hg
        unfold OpY
        go_simp
        exact HQ.out
    case hdone =>
      intro W3 hJ
      have hw := hJ.done
      clear hJ
      have hb3 := ((HBC.out.below (ext_drew (ext_refl _))).set 4 (.int .i64 v))
      have hb4 : Blk _ C (cdrA T V S { c with last := th, clock := v }) 74 := hb3
      have hb5 := hb4.set (11 + th) (.int .i64 v)
      rw [set_bumped T V S v _ HTH.out] at hb5
      have hb6 : Blk W3 C (cdrA T V S (knowsC c ⟨5, (th : Int), tx, at_, v, x, why⟩)) 74 := by rw [hw]; exact hb5
      have ht3 : Turn [C] W W3 := by rw [hw]; exact ((HT2.out.drew).setCell (Or.inl (by simp)) _).setCell (Or.inl (by simp)) _
      have HB6 := hid hb6
      have HT3 := hid ht3
      clear hb3 hb4 hb5 hb6 ht3 hw
      go_wp2_with fail
      go_end0
      exact ⟨rfl, HB6.out, HT3.out⟩
  by_cases k38 : kind = 3 ∨ kind = 8
  · obtain hat := HAT.out
    subst hat
    have hq32 := hq k38
    have HQQ := hid hq32
    have jq0 : (0 : Int) ≤ (q : Int) := by omega
    have jq1 : (q : Int) < 32 := by omega
    clear hq hq32
    by_cases k3 : kind = 3
    · subst k3
      clear k38
      go_enter Tryd.func37, Tryd.ntmps37
      go_wp2_with fail
      generalize hW2 : (W.setCell ⟨C, 3, none⟩ (.int .i64 (th : Int))).alloc (.cells #[.int .u8 3, .int .i64 (th : Int), .int .i64 tx, .int .i64 (q : Int), .int .i64 v, .int .i64 x, .int .u8 why] 33) = W2 at *
      generalize hEE : W.heap.size = E at *
      clear e0 e1 c3w z3w hcl hcn hW2 hEE
      apply wp_region_knownJ (fun qq => ([.pointer (some ⟨C, 0, none⟩), .pointer (some ⟨E, 3, none⟩), .int .i64 ((q : Int)), .pointer (some ⟨E, 5, none⟩), .int .i64 (x), .pointer (some ⟨C, 0, none⟩), .pointer (some ⟨C, 17, none⟩), .pointer (some ⟨C, 17 + q, none⟩), undef] : List Value).getD qq undef) (LS W2 ⟨C, 17 + q, none⟩ (.int .i64 x) 9 8)
      focus (simp [putAll, dstOf, Act.put, List.getD]; rfl)
      case hm => kernel_rfl
      case hd => kernel_rfl
      case hb => kernel_rfl
      case hng => kernel_rfl
      case hsz => kernel_rfl
      case hext => exact fun l l' w h H => H.ext (by decide) (fun i hi => h i hi)
      case h0 => exact LS.start
      case hstep =>
        refine ⟨?_, ?_, ?_, ?_, ?_, ?_, ?_, ?_, ?_,  trivial⟩
        · refine ⟨(fun g b h => by cases h), fun l w' hl hdp hJ hg ρ h1 h2 h3 h4 h5 => ?_⟩
          have HJ := hid hJ
          clear hJ
          have f0 : ρ (.tmp 0) = .pointer (some ⟨C, 0, none⟩) := h5 0 (by kernel_rfl)
          have h0 := HJ.out.not (i := 0) (by decide) (by decide) hl
          clear h0 h4 h5 hg
          unfold OpY
          go_simp
          first | exact ⟨rfl, HJ.out.put (i := 0) (by decide) (by decide) hl (fun e => absurd e (by decide)) (fun e => absurd e (by decide))⟩ | exact ⟨Or.inr rfl, HJ.out.put (i := 0) (by decide) (by decide) hl (fun e => absurd e (by decide)) (fun e => absurd e (by decide))⟩
        · refine ⟨(fun g b h => by cases h), fun l w' hl hdp hJ hg ρ h1 h2 h3 h4 h5 => ?_⟩
          have HJ := hid hJ
          clear hJ
          have f3 : ρ (.tmp 3) = .pointer (some ⟨E, 0, none⟩) := h5 3 (by kernel_rfl)
          have h0 := HJ.out.not (i := 1) (by decide) (by decide) hl
          clear h0 h4 h5 hg
          unfold OpY
          go_simp
          first | exact ⟨rfl, HJ.out.put (i := 1) (by decide) (by decide) hl (fun e => absurd e (by decide)) (fun e => absurd e (by decide))⟩ | exact ⟨Or.inr rfl, HJ.out.put (i := 1) (by decide) (by decide) hl (fun e => absurd e (by decide)) (fun e => absurd e (by decide))⟩
        · refine ⟨(fun g b h => by cases h), fun l w' hl hdp hJ hg ρ h1 h2 h3 h4 h5 => ?_⟩
          have HJ := hid hJ
          clear hJ
          have f45 : ρ (.tmp 45) = .pointer (some ⟨E, 3, none⟩) := h4 1 45 (by kernel_rfl) (by kernel_rfl)
          have h0 := HJ.out.not (i := 2) (by decide) (by decide) hl
          have hw := HJ.out.pre h0; subst hw; have c := (HBE.out.below (ext_drew (ext_refl _))).cell 3 (v := .int .i64 (q : Int)) rfl
          clear h0 h4 h5 hg
          unfold OpY
          go_simp
          first | exact ⟨rfl, HJ.out.put (i := 2) (by decide) (by decide) hl (fun e => absurd e (by decide)) (fun e => absurd e (by decide))⟩ | exact ⟨Or.inr rfl, HJ.out.put (i := 2) (by decide) (by decide) hl (fun e => absurd e (by decide)) (fun e => absurd e (by decide))⟩
        · refine ⟨(fun g b h => by cases h), fun l w' hl hdp hJ hg ρ h1 h2 h3 h4 h5 => ?_⟩
          have HJ := hid hJ
          clear hJ
          have f3 : ρ (.tmp 3) = .pointer (some ⟨E, 0, none⟩) := h5 3 (by kernel_rfl)
          have h0 := HJ.out.not (i := 3) (by decide) (by decide) hl
          clear h0 h4 h5 hg
          unfold OpY
          go_simp
          first | exact ⟨rfl, HJ.out.put (i := 3) (by decide) (by decide) hl (fun e => absurd e (by decide)) (fun e => absurd e (by decide))⟩ | exact ⟨Or.inr rfl, HJ.out.put (i := 3) (by decide) (by decide) hl (fun e => absurd e (by decide)) (fun e => absurd e (by decide))⟩
        · refine ⟨(fun g b h => by cases h), fun l w' hl hdp hJ hg ρ h1 h2 h3 h4 h5 => ?_⟩
          have HJ := hid hJ
          clear hJ
          have f47 : ρ (.tmp 47) = .pointer (some ⟨E, 5, none⟩) := h4 3 47 (by kernel_rfl) (by kernel_rfl)
          have h0 := HJ.out.not (i := 4) (by decide) (by decide) hl
          have hw := HJ.out.pre h0; subst hw; have c := (HBE.out.below (ext_drew (ext_refl _))).cell 5 (v := .int .i64 x) rfl
          clear h0 h4 h5 hg
          unfold OpY
          go_simp
          first | exact ⟨rfl, HJ.out.put (i := 4) (by decide) (by decide) hl (fun e => absurd e (by decide)) (fun e => absurd e (by decide))⟩ | exact ⟨Or.inr rfl, HJ.out.put (i := 4) (by decide) (by decide) hl (fun e => absurd e (by decide)) (fun e => absurd e (by decide))⟩
        · refine ⟨(fun g b h => by cases h), fun l w' hl hdp hJ hg ρ h1 h2 h3 h4 h5 => ?_⟩
          have HJ := hid hJ
          clear hJ
          have f44 : ρ (.tmp 44) = .pointer (some ⟨C, 0, none⟩) := h4 0 44 (by kernel_rfl) (by kernel_rfl)
          have h0 := HJ.out.not (i := 5) (by decide) (by decide) hl
          clear h0 h4 h5 hg
          unfold OpY
          go_simp
          first | exact ⟨rfl, HJ.out.put (i := 5) (by decide) (by decide) hl (fun e => absurd e (by decide)) (fun e => absurd e (by decide))⟩ | exact ⟨Or.inr rfl, HJ.out.put (i := 5) (by decide) (by decide) hl (fun e => absurd e (by decide)) (fun e => absurd e (by decide))⟩
        · refine ⟨(fun g b h => by cases h), fun l w' hl hdp hJ hg ρ h1 h2 h3 h4 h5 => ?_⟩
          have HJ := hid hJ
          clear hJ
          have f49 : ρ (.tmp 49) = .pointer (some ⟨C, 0, none⟩) := h4 5 49 (by kernel_rfl) (by kernel_rfl)
          have h0 := HJ.out.not (i := 6) (by decide) (by decide) hl
          clear h0 h4 h5 hg
          unfold OpY
          go_simp
          first | exact ⟨rfl, HJ.out.put (i := 6) (by decide) (by decide) hl (fun e => absurd e (by decide)) (fun _ => hdp 5 (by kernel_rfl))⟩ | exact ⟨Or.inr rfl, HJ.out.put (i := 6) (by decide) (by decide) hl (fun e => absurd e (by decide)) (fun _ => hdp 5 (by kernel_rfl))⟩
        · refine ⟨(fun g b h => by cases h), fun l w' hl hdp hJ hg ρ h1 h2 h3 h4 h5 => ?_⟩
          have HJ := hid hJ
          clear hJ
          have f50 : ρ (.tmp 50) = .pointer (some ⟨C, 17, none⟩) := h4 6 50 (by kernel_rfl) (by kernel_rfl)
          have f46 : ρ (.tmp 46) = .int .i64 ((q : Int)) := h4 2 46 (by kernel_rfl) (by kernel_rfl)
          have h0 := HJ.out.not (i := 7) (by decide) (by decide) hl
          clear h0 h4 h5 hg
          unfold OpY
          go_simp
          first | exact ⟨rfl, HJ.out.put (i := 7) (by decide) (by decide) hl (fun _ => hdp 6 (by kernel_rfl)) (fun e => absurd e (by decide))⟩ | exact ⟨Or.inr rfl, HJ.out.put (i := 7) (by decide) (by decide) hl (fun _ => hdp 6 (by kernel_rfl)) (fun e => absurd e (by decide))⟩
        · refine ⟨(fun g b h => by cases h), fun l w' hl hdp hJ hg ρ h1 h2 h3 h4 h5 => ?_⟩
          have HJ := hid hJ
          clear hJ
          have f51 : ρ (.tmp 51) = .pointer (some ⟨C, 17 + q, none⟩) := h4 7 51 (by kernel_rfl) (by kernel_rfl)
          have f48 : ρ (.tmp 48) = .int .i64 (x) := h4 4 48 (by kernel_rfl) (by kernel_rfl)
          have h15 := hdp 7 (by kernel_rfl)
          have h14 := HJ.out.d1 h15
          have h13 := HJ.out.d2 h14
          have hall : ∀ z, z < 9 → z ≠ 8 → l z = true := all_of (si := 8) h13 h14 (by kernel_rfl) hdp
          obtain ⟨hw, hq⟩ := HJ.out.store (by decide) hl hall
          subst hw
          have HQ := hid hq
          have cc := (HBC.out.below (ext_drew (ext_refl _))).cell (17 + q) (cdr_x T V S { c with last := th } HQQ.out)
          have zz := (HBC.out.below (ext_drew (ext_refl _))).free (17 + q)
          have cc2 := HBC.out.cell (17 + q) (cdr_x T V S { c with last := th } HQQ.out)
          have zz2 := HBC.out.free (17 + q)
          clear hall hq h13 h14 h15 h4 h5 hg
          unfold OpY
          go_simp
          exact HQ.out
      case hdone =>
        intro W3 hJ
        have hw := hJ.fin rfl
        clear hJ
        have hb5 := (HBC.out.below (ext_drew (ext_refl _))).set (17 + q) (.int .i64 x)
        rw [set_x T V S x _ HQQ.out] at hb5
        have hb6 : Blk W3 C (cdrA T V S (knowsC c ⟨3, (th : Int), tx, (q : Int), v, x, why⟩)) 74 := by rw [hw]; exact hb5
        have ht3 : Turn [C] W W3 := by rw [hw]; exact (HT2.out.drew).setCell (Or.inl (by simp)) _
        have HB6 := hid hb6
        have HT3 := hid ht3
        clear hb5 hb6 ht3 hw
        go_wp2_with fail
        go_end0
        exact ⟨rfl, HB6.out, HT3.out⟩
    have k8 : kind = 8 := by omega
    subst k8
    clear k38
    go_enter Tryd.func37, Tryd.ntmps37
    go_wp2_with fail
    generalize hW2 : (W.setCell ⟨C, 3, none⟩ (.int .i64 (th : Int))).alloc (.cells #[.int .u8 8, .int .i64 (th : Int), .int .i64 tx, .int .i64 (q : Int), .int .i64 v, .int .i64 x, .int .u8 why] 33) = W2 at *
    generalize hEE : W.heap.size = E at *
    clear e0 e1 c3w z3w hcl hcn hW2 hEE
    apply wp_region_knownJ (fun qq => ([.pointer (some ⟨C, 0, none⟩), .pointer (some ⟨E, 3, none⟩), .int .i64 ((q : Int)), .pointer (some ⟨E, 5, none⟩), .int .i64 (x), .pointer (some ⟨C, 0, none⟩), .pointer (some ⟨C, 17, none⟩), .pointer (some ⟨C, 17 + q, none⟩), undef] : List Value).getD qq undef) (LS W2 ⟨C, 17 + q, none⟩ (.int .i64 x) 9 8)
    focus (simp [putAll, dstOf, Act.put, List.getD]; rfl)
    case hm => kernel_rfl
    case hd => kernel_rfl
    case hb => kernel_rfl
    case hng => kernel_rfl
    case hsz => kernel_rfl
    case hext => exact fun l l' w h H => H.ext (by decide) (fun i hi => h i hi)
    case h0 => exact LS.start
    case hstep =>
      refine ⟨?_, ?_, ?_, ?_, ?_, ?_, ?_, ?_, ?_,  trivial⟩
      · refine ⟨(fun g b h => by cases h), fun l w' hl hdp hJ hg ρ h1 h2 h3 h4 h5 => ?_⟩
        have HJ := hid hJ
        clear hJ
        have f0 : ρ (.tmp 0) = .pointer (some ⟨C, 0, none⟩) := h5 0 (by kernel_rfl)
        have h0 := HJ.out.not (i := 0) (by decide) (by decide) hl
        clear h0 h4 h5 hg
        unfold OpY
        go_simp
        first | exact ⟨rfl, HJ.out.put (i := 0) (by decide) (by decide) hl (fun e => absurd e (by decide)) (fun e => absurd e (by decide))⟩ | exact ⟨Or.inr rfl, HJ.out.put (i := 0) (by decide) (by decide) hl (fun e => absurd e (by decide)) (fun e => absurd e (by decide))⟩
      · refine ⟨(fun g b h => by cases h), fun l w' hl hdp hJ hg ρ h1 h2 h3 h4 h5 => ?_⟩
        have HJ := hid hJ
        clear hJ
        have f3 : ρ (.tmp 3) = .pointer (some ⟨E, 0, none⟩) := h5 3 (by kernel_rfl)
        have h0 := HJ.out.not (i := 1) (by decide) (by decide) hl
        clear h0 h4 h5 hg
        unfold OpY
        go_simp
        first | exact ⟨rfl, HJ.out.put (i := 1) (by decide) (by decide) hl (fun e => absurd e (by decide)) (fun e => absurd e (by decide))⟩ | exact ⟨Or.inr rfl, HJ.out.put (i := 1) (by decide) (by decide) hl (fun e => absurd e (by decide)) (fun e => absurd e (by decide))⟩
      · refine ⟨(fun g b h => by cases h), fun l w' hl hdp hJ hg ρ h1 h2 h3 h4 h5 => ?_⟩
        have HJ := hid hJ
        clear hJ
        have f45 : ρ (.tmp 45) = .pointer (some ⟨E, 3, none⟩) := h4 1 45 (by kernel_rfl) (by kernel_rfl)
        have h0 := HJ.out.not (i := 2) (by decide) (by decide) hl
        have hw := HJ.out.pre h0; subst hw; have c := (HBE.out.below (ext_drew (ext_refl _))).cell 3 (v := .int .i64 (q : Int)) rfl
        clear h0 h4 h5 hg
        unfold OpY
        go_simp
        first | exact ⟨rfl, HJ.out.put (i := 2) (by decide) (by decide) hl (fun e => absurd e (by decide)) (fun e => absurd e (by decide))⟩ | exact ⟨Or.inr rfl, HJ.out.put (i := 2) (by decide) (by decide) hl (fun e => absurd e (by decide)) (fun e => absurd e (by decide))⟩
      · refine ⟨(fun g b h => by cases h), fun l w' hl hdp hJ hg ρ h1 h2 h3 h4 h5 => ?_⟩
        have HJ := hid hJ
        clear hJ
        have f3 : ρ (.tmp 3) = .pointer (some ⟨E, 0, none⟩) := h5 3 (by kernel_rfl)
        have h0 := HJ.out.not (i := 3) (by decide) (by decide) hl
        clear h0 h4 h5 hg
        unfold OpY
        go_simp
        first | exact ⟨rfl, HJ.out.put (i := 3) (by decide) (by decide) hl (fun e => absurd e (by decide)) (fun e => absurd e (by decide))⟩ | exact ⟨Or.inr rfl, HJ.out.put (i := 3) (by decide) (by decide) hl (fun e => absurd e (by decide)) (fun e => absurd e (by decide))⟩
      · refine ⟨(fun g b h => by cases h), fun l w' hl hdp hJ hg ρ h1 h2 h3 h4 h5 => ?_⟩
        have HJ := hid hJ
        clear hJ
        have f47 : ρ (.tmp 47) = .pointer (some ⟨E, 5, none⟩) := h4 3 47 (by kernel_rfl) (by kernel_rfl)
        have h0 := HJ.out.not (i := 4) (by decide) (by decide) hl
        have hw := HJ.out.pre h0; subst hw; have c := (HBE.out.below (ext_drew (ext_refl _))).cell 5 (v := .int .i64 x) rfl
        clear h0 h4 h5 hg
        unfold OpY
        go_simp
        first | exact ⟨rfl, HJ.out.put (i := 4) (by decide) (by decide) hl (fun e => absurd e (by decide)) (fun e => absurd e (by decide))⟩ | exact ⟨Or.inr rfl, HJ.out.put (i := 4) (by decide) (by decide) hl (fun e => absurd e (by decide)) (fun e => absurd e (by decide))⟩
      · refine ⟨(fun g b h => by cases h), fun l w' hl hdp hJ hg ρ h1 h2 h3 h4 h5 => ?_⟩
        have HJ := hid hJ
        clear hJ
        have f44 : ρ (.tmp 44) = .pointer (some ⟨C, 0, none⟩) := h4 0 44 (by kernel_rfl) (by kernel_rfl)
        have h0 := HJ.out.not (i := 5) (by decide) (by decide) hl
        clear h0 h4 h5 hg
        unfold OpY
        go_simp
        first | exact ⟨rfl, HJ.out.put (i := 5) (by decide) (by decide) hl (fun e => absurd e (by decide)) (fun e => absurd e (by decide))⟩ | exact ⟨Or.inr rfl, HJ.out.put (i := 5) (by decide) (by decide) hl (fun e => absurd e (by decide)) (fun e => absurd e (by decide))⟩
      · refine ⟨(fun g b h => by cases h), fun l w' hl hdp hJ hg ρ h1 h2 h3 h4 h5 => ?_⟩
        have HJ := hid hJ
        clear hJ
        have f49 : ρ (.tmp 49) = .pointer (some ⟨C, 0, none⟩) := h4 5 49 (by kernel_rfl) (by kernel_rfl)
        have h0 := HJ.out.not (i := 6) (by decide) (by decide) hl
        clear h0 h4 h5 hg
        unfold OpY
        go_simp
        first | exact ⟨rfl, HJ.out.put (i := 6) (by decide) (by decide) hl (fun e => absurd e (by decide)) (fun _ => hdp 5 (by kernel_rfl))⟩ | exact ⟨Or.inr rfl, HJ.out.put (i := 6) (by decide) (by decide) hl (fun e => absurd e (by decide)) (fun _ => hdp 5 (by kernel_rfl))⟩
      · refine ⟨(fun g b h => by cases h), fun l w' hl hdp hJ hg ρ h1 h2 h3 h4 h5 => ?_⟩
        have HJ := hid hJ
        clear hJ
        have f50 : ρ (.tmp 50) = .pointer (some ⟨C, 17, none⟩) := h4 6 50 (by kernel_rfl) (by kernel_rfl)
        have f46 : ρ (.tmp 46) = .int .i64 ((q : Int)) := h4 2 46 (by kernel_rfl) (by kernel_rfl)
        have h0 := HJ.out.not (i := 7) (by decide) (by decide) hl
        clear h0 h4 h5 hg
        unfold OpY
        go_simp
        first | exact ⟨rfl, HJ.out.put (i := 7) (by decide) (by decide) hl (fun _ => hdp 6 (by kernel_rfl)) (fun e => absurd e (by decide))⟩ | exact ⟨Or.inr rfl, HJ.out.put (i := 7) (by decide) (by decide) hl (fun _ => hdp 6 (by kernel_rfl)) (fun e => absurd e (by decide))⟩
      · refine ⟨(fun g b h => by cases h), fun l w' hl hdp hJ hg ρ h1 h2 h3 h4 h5 => ?_⟩
        have HJ := hid hJ
        clear hJ
        have f51 : ρ (.tmp 51) = .pointer (some ⟨C, 17 + q, none⟩) := h4 7 51 (by kernel_rfl) (by kernel_rfl)
        have f48 : ρ (.tmp 48) = .int .i64 (x) := h4 4 48 (by kernel_rfl) (by kernel_rfl)
        have h15 := hdp 7 (by kernel_rfl)
        have h14 := HJ.out.d1 h15
        have h13 := HJ.out.d2 h14
        have hall : ∀ z, z < 9 → z ≠ 8 → l z = true := all_of (si := 8) h13 h14 (by kernel_rfl) hdp
        obtain ⟨hw, hq⟩ := HJ.out.store (by decide) hl hall
        subst hw
        have HQ := hid hq
        have cc := (HBC.out.below (ext_drew (ext_refl _))).cell (17 + q) (cdr_x T V S { c with last := th } HQQ.out)
        have zz := (HBC.out.below (ext_drew (ext_refl _))).free (17 + q)
        have cc2 := HBC.out.cell (17 + q) (cdr_x T V S { c with last := th } HQQ.out)
        have zz2 := HBC.out.free (17 + q)
        clear hall hq h13 h14 h15 h4 h5 hg
        unfold OpY
        go_simp
        exact HQ.out
    case hdone =>
      intro W3 hJ
      have hw := hJ.fin rfl
      clear hJ
      have hb5 := (HBC.out.below (ext_drew (ext_refl _))).set (17 + q) (.int .i64 x)
      rw [set_x T V S x _ HQQ.out] at hb5
      have hb6 : Blk W3 C (cdrA T V S (knowsC c ⟨8, (th : Int), tx, (q : Int), v, x, why⟩)) 74 := by rw [hw]; exact hb5
      have ht3 : Turn [C] W W3 := by rw [hw]; exact (HT2.out.drew).setCell (Or.inl (by simp)) _
      have HB6 := hid hb6
      have HT3 := hid ht3
      clear hb5 hb6 ht3 hw
      go_wp2_with fail
      go_end0
      exact ⟨rfl, HB6.out, HT3.out⟩
  have g1 : (kind == 1) = false := by simp [k1]
  have g5 : (kind == 5) = false := by simp [k5]
  have g3 : (kind == 3) = false := by simp; omega
  have g8 : (kind == 8) = false := by simp; omega
  have f1 : decide (kind = 1) = false := by simp [k1]
  have f5 : decide (kind = 5) = false := by simp [k5]
  have f3 : decide (kind = 3) = false := by simp; omega
  have f8 : decide (kind = 8) = false := by simp; omega
  have hkn : knowsC c ⟨kind, (th : Int), tx, at_, v, x, why⟩ = { c with last := (th : Int) } := by unfold knowsC; rw [if_neg k1, if_neg k5, if_neg k38]
  rw [hkn]
  clear k1 k5 k38 hq hkn
  go_enter Tryd.func37, Tryd.ntmps37
  go_wp2_with fail
  go_end0
  exact ⟨rfl, HBC.out, HT2.out⟩
end Go.Proofs.YtokkafiphchejaaDoor
/-
  Walk: what the document's coder knows of an event (as DeL7's).
-/
namespace Go.Proofs.YtokkafiphchejaaDoor
set_option linter.unusedVariables false
set_option linter.unusedSimpArgs false
set_option linter.unusedVariables false
open Go Go.RowKit
/-- What knows tells. -/
def QKnowsP (T V S : Int) (c : Cdr) (C : Nat) (W : World) (e' : Ending) (W' : World) : Prop := e' = .returned (.tuple #[]) ∧ Blk W' C (cdrA T V S c) 90 ∧ Turn [C] W W'
set_option maxRecDepth 100000 in
set_option maxHeartbeats 4000000 in
theorem qknows_any (T V S : Int) (c : Cdr) (kind tx at_ v x why : Int) (th q : Nat) (C : Nat) (W : World) (hC : Blk W C (cdrA T V S c) 90) (hth : th < 6) (hat : at_ = (q : Int)) (hq : kind = 3 ∨ kind = 8 → q < 32) :
    Calls Tryd.prog 41 #[.pointer (some ⟨C, 0, none⟩), evA ⟨kind, (th : Int), tx, at_, v, x, why⟩] W (QKnowsP T V S (knowsC c ⟨kind, (th : Int), tx, at_, v, x, why⟩) C W) := by
  have HAT := hid hat
  clear hat
  have hbe := Blk.new W #[.int .u8 kind, .int .i64 (th : Int), .int .i64 tx, .int .i64 at_, .int .i64 v, .int .i64 x, .int .u8 why] 33
  have e1 := hbe.cell 1 (v := .int .i64 (th : Int)) rfl
  have c3w := hC.cell 3 (v := .int .i64 c.last) rfl
  have z3w := hC.free 3
  have hcl := hC.lt
  have hcn : C ≠ W.heap.size := by omega
  have HEC := hid (show W.heap.size ≠ C by omega)
  have hbs : Blk (W.setCell ⟨C, 3, none⟩ (.int .i64 (th : Int))) C (cdrA T V S { c with last := th }) 90 := hC.set 3 (.int .i64 (th : Int))
  have hbe2 : Blk ((W.setCell ⟨C, 3, none⟩ (.int .i64 (th : Int))).alloc (.cells #[.int .u8 kind, .int .i64 (th : Int), .int .i64 tx, .int .i64 at_, .int .i64 v, .int .i64 x, .int .u8 why] 33)) W.heap.size #[.int .u8 kind, .int .i64 (th : Int), .int .i64 tx, .int .i64 at_, .int .i64 v, .int .i64 x, .int .u8 why] 33 := Blk.new' _ _ _ (by simp [World.setCell])
  have hbc2 := hbs.alloc (.cells #[.int .u8 kind, .int .i64 (th : Int), .int .i64 tx, .int .i64 at_, .int .i64 v, .int .i64 x, .int .u8 why] 33)
  have ht2 : Turn [C] W ((W.setCell ⟨C, 3, none⟩ (.int .i64 (th : Int))).alloc (.cells #[.int .u8 kind, .int .i64 (th : Int), .int .i64 tx, .int .i64 at_, .int .i64 v, .int .i64 x, .int .u8 why] 33)) := ((Turn.refl _ _).setCell (Or.inl (by simp)) _).alloc _
  have e0 := hbe2.cell 0 (v := .int .u8 kind) rfl
  have HTH := hid hth
  have jt0 : (0 : Int) ≤ (th : Int) := by omega
  have jt6 : (th : Int) < 6 := by omega
  have HBE := hid hbe2
  have HBC := hid hbc2
  have HT2 := hid ht2
  dsimp only [evA]
  clear hC hbe hbs hbe2 hbc2 ht2 hth
  unfold QKnowsP
  by_cases k1 : kind = 1
  · subst k1
    clear hq
    go_enter Tryd.func41, Tryd.ntmps41
    go_wp2_with fail
    generalize hW2 : (W.setCell ⟨C, 3, none⟩ (.int .i64 (th : Int))).alloc (.cells #[.int .u8 1, .int .i64 (th : Int), .int .i64 tx, .int .i64 at_, .int .i64 v, .int .i64 x, .int .u8 why] 33) = W2 at *
    generalize hEE : W.heap.size = E at *
    clear e0 e1 c3w z3w hcl hcn hW2 hEE
    apply wp_region_knownJ (fun qq => ([.pointer (some ⟨C, 0, none⟩), .pointer (some ⟨C, 0, none⟩), .pointer (some ⟨E, 1, none⟩), .int .i64 ((th : Int)), .pointer (some ⟨E, 4, none⟩), .int .i64 (v), .pointer (some ⟨E, 4, none⟩), .int .i64 (v), .pointer (some ⟨C, 0, none⟩), .pointer (some ⟨C, 4, none⟩), undef, .pointer (some ⟨C, 0, none⟩), .pointer (some ⟨C, 5, none⟩), .pointer (some ⟨C, 5 + th, none⟩), undef] : List Value).getD qq undef) (TwoSt W2.drew C 4 (5 + th) (.int .i64 v) (.int .i64 v) 10 14)
    focus (simp [putAll, dstOf, Act.put, List.getD]; rfl)
    case hm => kernel_rfl
    case hd => kernel_rfl
    case hb => kernel_rfl
    case hng => kernel_rfl
    case hsz => kernel_rfl
    case hext => exact fun l l' w h H => H.ext (by decide) (by decide) h
    case h0 => exact TwoSt.start
    case hstep =>
      refine ⟨?_, ?_, ?_, ?_, ?_, ?_, ?_, ?_, ?_, ?_, ?_, ?_, ?_, ?_, ?_,  trivial⟩
      · refine ⟨(fun g b h => by cases h), fun l w' hl hdp hJ hg ρ h1 h2 h3 h4 h5 => ?_⟩
        have HJ := hid hJ
        clear hJ
        have f0 : ρ (.tmp 0) = .pointer (some ⟨C, 0, none⟩) := h5 0 (by kernel_rfl)
        clear h4 h5 hg
        unfold OpY
        go_simp
        first | exact ⟨rfl, HJ.out.other 0 (by decide) (by decide)⟩ | exact ⟨Or.inr rfl, HJ.out.other 0 (by decide) (by decide)⟩
      · refine ⟨(fun g b h => by cases h), fun l w' hl hdp hJ hg ρ h1 h2 h3 h4 h5 => ?_⟩
        have HJ := hid hJ
        clear hJ
        have f0 : ρ (.tmp 0) = .pointer (some ⟨C, 0, none⟩) := h5 0 (by kernel_rfl)
        clear h4 h5 hg
        unfold OpY
        go_simp
        first | exact ⟨rfl, HJ.out.other 1 (by decide) (by decide)⟩ | exact ⟨Or.inr rfl, HJ.out.other 1 (by decide) (by decide)⟩
      · refine ⟨(fun g b h => by cases h), fun l w' hl hdp hJ hg ρ h1 h2 h3 h4 h5 => ?_⟩
        have HJ := hid hJ
        clear hJ
        have f3 : ρ (.tmp 3) = .pointer (some ⟨E, 0, none⟩) := h5 3 (by kernel_rfl)
        clear h4 h5 hg
        unfold OpY
        go_simp
        first | exact ⟨rfl, HJ.out.other 2 (by decide) (by decide)⟩ | exact ⟨Or.inr rfl, HJ.out.other 2 (by decide) (by decide)⟩
      · refine ⟨(fun g b h => by cases h), fun l w' hl hdp hJ hg ρ h1 h2 h3 h4 h5 => ?_⟩
        have HJ := hid hJ
        clear hJ
        have f15 : ρ (.tmp 15) = .pointer (some ⟨E, 1, none⟩) := h4 2 15 (by kernel_rfl) (by kernel_rfl)
        have c := (HJ.out.far (HBE.out.below (ext_drew (ext_refl _))) HEC.out).cell 1 (v := .int .i64 (th : Int)) rfl
        clear h4 h5 hg
        unfold OpY
        go_simp
        first | exact ⟨rfl, HJ.out.other 3 (by decide) (by decide)⟩ | exact ⟨Or.inr rfl, HJ.out.other 3 (by decide) (by decide)⟩
      · refine ⟨(fun g b h => by cases h), fun l w' hl hdp hJ hg ρ h1 h2 h3 h4 h5 => ?_⟩
        have HJ := hid hJ
        clear hJ
        have f3 : ρ (.tmp 3) = .pointer (some ⟨E, 0, none⟩) := h5 3 (by kernel_rfl)
        clear h4 h5 hg
        unfold OpY
        go_simp
        first | exact ⟨rfl, HJ.out.other 4 (by decide) (by decide)⟩ | exact ⟨Or.inr rfl, HJ.out.other 4 (by decide) (by decide)⟩
      · refine ⟨(fun g b h => by cases h), fun l w' hl hdp hJ hg ρ h1 h2 h3 h4 h5 => ?_⟩
        have HJ := hid hJ
        clear hJ
        have f17 : ρ (.tmp 17) = .pointer (some ⟨E, 4, none⟩) := h4 4 17 (by kernel_rfl) (by kernel_rfl)
        have c := (HJ.out.far (HBE.out.below (ext_drew (ext_refl _))) HEC.out).cell 4 (v := .int .i64 v) rfl
        clear h4 h5 hg
        unfold OpY
        go_simp
        first | exact ⟨rfl, HJ.out.other 5 (by decide) (by decide)⟩ | exact ⟨Or.inr rfl, HJ.out.other 5 (by decide) (by decide)⟩
      · refine ⟨(fun g b h => by cases h), fun l w' hl hdp hJ hg ρ h1 h2 h3 h4 h5 => ?_⟩
        have HJ := hid hJ
        clear hJ
        have f3 : ρ (.tmp 3) = .pointer (some ⟨E, 0, none⟩) := h5 3 (by kernel_rfl)
        clear h4 h5 hg
        unfold OpY
        go_simp
        first | exact ⟨rfl, HJ.out.other 6 (by decide) (by decide)⟩ | exact ⟨Or.inr rfl, HJ.out.other 6 (by decide) (by decide)⟩
      · refine ⟨(fun g b h => by cases h), fun l w' hl hdp hJ hg ρ h1 h2 h3 h4 h5 => ?_⟩
        have HJ := hid hJ
        clear hJ
        have f19 : ρ (.tmp 19) = .pointer (some ⟨E, 4, none⟩) := h4 6 19 (by kernel_rfl) (by kernel_rfl)
        have c := (HJ.out.far (HBE.out.below (ext_drew (ext_refl _))) HEC.out).cell 4 (v := .int .i64 v) rfl
        clear h4 h5 hg
        unfold OpY
        go_simp
        first | exact ⟨rfl, HJ.out.other 7 (by decide) (by decide)⟩ | exact ⟨Or.inr rfl, HJ.out.other 7 (by decide) (by decide)⟩
      · refine ⟨(fun g b h => by cases h), fun l w' hl hdp hJ hg ρ h1 h2 h3 h4 h5 => ?_⟩
        have HJ := hid hJ
        clear hJ
        have f13 : ρ (.tmp 13) = .pointer (some ⟨C, 0, none⟩) := h4 0 13 (by kernel_rfl) (by kernel_rfl)
        clear h4 h5 hg
        unfold OpY
        go_simp
        first | exact ⟨rfl, HJ.out.other 8 (by decide) (by decide)⟩ | exact ⟨Or.inr rfl, HJ.out.other 8 (by decide) (by decide)⟩
      · refine ⟨(fun g b h => by cases h), fun l w' hl hdp hJ hg ρ h1 h2 h3 h4 h5 => ?_⟩
        have HJ := hid hJ
        clear hJ
        have f21 : ρ (.tmp 21) = .pointer (some ⟨C, 0, none⟩) := h4 8 21 (by kernel_rfl) (by kernel_rfl)
        clear h4 h5 hg
        unfold OpY
        go_simp
        first | exact ⟨rfl, HJ.out.other 9 (by decide) (by decide)⟩ | exact ⟨Or.inr rfl, HJ.out.other 9 (by decide) (by decide)⟩
      · refine ⟨(fun g b h => by cases h), fun l w' hl hdp hJ hg ρ h1 h2 h3 h4 h5 => ?_⟩
        have HJ := hid hJ
        clear hJ
        have f22 : ρ (.tmp 22) = .pointer (some ⟨C, 4, none⟩) := h4 9 22 (by kernel_rfl) (by kernel_rfl)
        have f18 : ρ (.tmp 18) = .int .i64 (v) := h4 5 18 (by kernel_rfl) (by kernel_rfl)
        obtain ⟨hw, hq⟩ := HJ.out.first (by decide) hl
        subst hw
        have HQ := hid hq
        have cc := (HBC.out.below (ext_drew (ext_refl _))).cell 4 (v := .int .i64 (c.clock)) rfl
        have zz := (HBC.out.below (ext_drew (ext_refl _))).free 4
        clear hq
        clear h4 h5 hg
        unfold OpY
        go_simp
        exact HQ.out
      · refine ⟨(fun g b h => by cases h), fun l w' hl hdp hJ hg ρ h1 h2 h3 h4 h5 => ?_⟩
        have HJ := hid hJ
        clear hJ
        have f14 : ρ (.tmp 14) = .pointer (some ⟨C, 0, none⟩) := h4 1 14 (by kernel_rfl) (by kernel_rfl)
        clear h4 h5 hg
        unfold OpY
        go_simp
        first | exact ⟨rfl, HJ.out.other 11 (by decide) (by decide)⟩ | exact ⟨Or.inr rfl, HJ.out.other 11 (by decide) (by decide)⟩
      · refine ⟨(fun g b h => by cases h), fun l w' hl hdp hJ hg ρ h1 h2 h3 h4 h5 => ?_⟩
        have HJ := hid hJ
        clear hJ
        have f23 : ρ (.tmp 23) = .pointer (some ⟨C, 0, none⟩) := h4 11 23 (by kernel_rfl) (by kernel_rfl)
        clear h4 h5 hg
        unfold OpY
        go_simp
        first | exact ⟨rfl, HJ.out.other 12 (by decide) (by decide)⟩ | exact ⟨Or.inr rfl, HJ.out.other 12 (by decide) (by decide)⟩
      · refine ⟨(fun g b h => by cases h), fun l w' hl hdp hJ hg ρ h1 h2 h3 h4 h5 => ?_⟩
        have HJ := hid hJ
        clear hJ
        have f24 : ρ (.tmp 24) = .pointer (some ⟨C, 5, none⟩) := h4 12 24 (by kernel_rfl) (by kernel_rfl)
        have f16 : ρ (.tmp 16) = .int .i64 ((th : Int)) := h4 3 16 (by kernel_rfl) (by kernel_rfl)
        clear h4 h5 hg
        unfold OpY
        go_simp
        first | exact ⟨rfl, HJ.out.other 13 (by decide) (by decide)⟩ | exact ⟨Or.inr rfl, HJ.out.other 13 (by decide) (by decide)⟩
      · refine ⟨(fun g b h => by cases h), fun l w' hl hdp hJ hg ρ h1 h2 h3 h4 h5 => ?_⟩
        have HJ := hid hJ
        clear hJ
        have f25 : ρ (.tmp 25) = .pointer (some ⟨C, 5 + th, none⟩) := h4 13 25 (by kernel_rfl) (by kernel_rfl)
        have f20 : ρ (.tmp 20) = .int .i64 (v) := h4 7 20 (by kernel_rfl) (by kernel_rfl)
        obtain ⟨hw, hq⟩ := HJ.out.second (by decide) (hdp 10 (by kernel_rfl)) hl
        subst hw
        have HQ := hid hq
        have cc2 := HBC.out.cell (5 + th) (cdr_begun T V S { c with last := th } HTH.out)
        have zz2 := HBC.out.free (5 + th)
        have cc := ((HBC.out.below (ext_drew (ext_refl _))).set 4 (.int .i64 v)).cell (5 + th) (cdr_begun T V S { c with last := th, clock := v } HTH.out)
        have zz := ((HBC.out.below (ext_drew (ext_refl _))).set 4 (.int .i64 v)).free (5 + th)
        clear hq
        clear h4 h5 hg
        unfold OpY
        go_simp
        exact HQ.out
    case hdone =>
      intro W3 hJ
      have hw := hJ.done
      clear hJ
      have hb3 := ((HBC.out.below (ext_drew (ext_refl _))).set 4 (.int .i64 v))
      have hb4 : Blk _ C (cdrA T V S { c with last := th, clock := v }) 90 := hb3
      have hb5 := hb4.set (5 + th) (.int .i64 v)
      rw [set_begun T V S v _ HTH.out] at hb5
      have hb6 : Blk W3 C (cdrA T V S (knowsC c ⟨1, (th : Int), tx, at_, v, x, why⟩)) 90 := by rw [hw]; exact hb5
      have ht3 : Turn [C] W W3 := by rw [hw]; exact ((HT2.out.drew).setCell (Or.inl (by simp)) _).setCell (Or.inl (by simp)) _
      have HB6 := hid hb6
      have HT3 := hid ht3
      clear hb3 hb4 hb5 hb6 ht3 hw
      go_wp2_with fail
      go_end0
      exact ⟨rfl, HB6.out, HT3.out⟩
  by_cases k5 : kind = 5
  · subst k5
    clear hq
    go_enter Tryd.func41, Tryd.ntmps41
    go_wp2_with fail
    generalize hW2 : (W.setCell ⟨C, 3, none⟩ (.int .i64 (th : Int))).alloc (.cells #[.int .u8 5, .int .i64 (th : Int), .int .i64 tx, .int .i64 at_, .int .i64 v, .int .i64 x, .int .u8 why] 33) = W2 at *
    generalize hEE : W.heap.size = E at *
    clear e0 e1 c3w z3w hcl hcn hW2 hEE
    apply wp_region_knownJ (fun qq => ([.pointer (some ⟨C, 0, none⟩), .pointer (some ⟨C, 0, none⟩), .pointer (some ⟨E, 1, none⟩), .int .i64 ((th : Int)), .pointer (some ⟨E, 4, none⟩), .int .i64 (v), .pointer (some ⟨E, 4, none⟩), .int .i64 (v), .pointer (some ⟨C, 0, none⟩), .pointer (some ⟨C, 4, none⟩), undef, .pointer (some ⟨C, 0, none⟩), .pointer (some ⟨C, 11, none⟩), .pointer (some ⟨C, 11 + th, none⟩), undef] : List Value).getD qq undef) (TwoSt W2.drew C 4 (11 + th) (.int .i64 v) (.int .i64 v) 10 14)
    focus (simp [putAll, dstOf, Act.put, List.getD]; rfl)
    case hm => kernel_rfl
    case hd => kernel_rfl
    case hb => kernel_rfl
    case hng => kernel_rfl
    case hsz => kernel_rfl
    case hext => exact fun l l' w h H => H.ext (by decide) (by decide) h
    case h0 => exact TwoSt.start
    case hstep =>
      refine ⟨?_, ?_, ?_, ?_, ?_, ?_, ?_, ?_, ?_, ?_, ?_, ?_, ?_, ?_, ?_,  trivial⟩
      · refine ⟨(fun g b h => by cases h), fun l w' hl hdp hJ hg ρ h1 h2 h3 h4 h5 => ?_⟩
        have HJ := hid hJ
        clear hJ
        have f0 : ρ (.tmp 0) = .pointer (some ⟨C, 0, none⟩) := h5 0 (by kernel_rfl)
        clear h4 h5 hg
        unfold OpY
        go_simp
        first | exact ⟨rfl, HJ.out.other 0 (by decide) (by decide)⟩ | exact ⟨Or.inr rfl, HJ.out.other 0 (by decide) (by decide)⟩
      · refine ⟨(fun g b h => by cases h), fun l w' hl hdp hJ hg ρ h1 h2 h3 h4 h5 => ?_⟩
        have HJ := hid hJ
        clear hJ
        have f0 : ρ (.tmp 0) = .pointer (some ⟨C, 0, none⟩) := h5 0 (by kernel_rfl)
        clear h4 h5 hg
        unfold OpY
        go_simp
        first | exact ⟨rfl, HJ.out.other 1 (by decide) (by decide)⟩ | exact ⟨Or.inr rfl, HJ.out.other 1 (by decide) (by decide)⟩
      · refine ⟨(fun g b h => by cases h), fun l w' hl hdp hJ hg ρ h1 h2 h3 h4 h5 => ?_⟩
        have HJ := hid hJ
        clear hJ
        have f3 : ρ (.tmp 3) = .pointer (some ⟨E, 0, none⟩) := h5 3 (by kernel_rfl)
        clear h4 h5 hg
        unfold OpY
        go_simp
        first | exact ⟨rfl, HJ.out.other 2 (by decide) (by decide)⟩ | exact ⟨Or.inr rfl, HJ.out.other 2 (by decide) (by decide)⟩
      · refine ⟨(fun g b h => by cases h), fun l w' hl hdp hJ hg ρ h1 h2 h3 h4 h5 => ?_⟩
        have HJ := hid hJ
        clear hJ
        have f30 : ρ (.tmp 30) = .pointer (some ⟨E, 1, none⟩) := h4 2 30 (by kernel_rfl) (by kernel_rfl)
        have c := (HJ.out.far (HBE.out.below (ext_drew (ext_refl _))) HEC.out).cell 1 (v := .int .i64 (th : Int)) rfl
        clear h4 h5 hg
        unfold OpY
        go_simp
        first | exact ⟨rfl, HJ.out.other 3 (by decide) (by decide)⟩ | exact ⟨Or.inr rfl, HJ.out.other 3 (by decide) (by decide)⟩
      · refine ⟨(fun g b h => by cases h), fun l w' hl hdp hJ hg ρ h1 h2 h3 h4 h5 => ?_⟩
        have HJ := hid hJ
        clear hJ
        have f3 : ρ (.tmp 3) = .pointer (some ⟨E, 0, none⟩) := h5 3 (by kernel_rfl)
        clear h4 h5 hg
        unfold OpY
        go_simp
        first | exact ⟨rfl, HJ.out.other 4 (by decide) (by decide)⟩ | exact ⟨Or.inr rfl, HJ.out.other 4 (by decide) (by decide)⟩
      · refine ⟨(fun g b h => by cases h), fun l w' hl hdp hJ hg ρ h1 h2 h3 h4 h5 => ?_⟩
        have HJ := hid hJ
        clear hJ
        have f32 : ρ (.tmp 32) = .pointer (some ⟨E, 4, none⟩) := h4 4 32 (by kernel_rfl) (by kernel_rfl)
        have c := (HJ.out.far (HBE.out.below (ext_drew (ext_refl _))) HEC.out).cell 4 (v := .int .i64 v) rfl
        clear h4 h5 hg
        unfold OpY
        go_simp
        first | exact ⟨rfl, HJ.out.other 5 (by decide) (by decide)⟩ | exact ⟨Or.inr rfl, HJ.out.other 5 (by decide) (by decide)⟩
      · refine ⟨(fun g b h => by cases h), fun l w' hl hdp hJ hg ρ h1 h2 h3 h4 h5 => ?_⟩
        have HJ := hid hJ
        clear hJ
        have f3 : ρ (.tmp 3) = .pointer (some ⟨E, 0, none⟩) := h5 3 (by kernel_rfl)
        clear h4 h5 hg
        unfold OpY
        go_simp
        first | exact ⟨rfl, HJ.out.other 6 (by decide) (by decide)⟩ | exact ⟨Or.inr rfl, HJ.out.other 6 (by decide) (by decide)⟩
      · refine ⟨(fun g b h => by cases h), fun l w' hl hdp hJ hg ρ h1 h2 h3 h4 h5 => ?_⟩
        have HJ := hid hJ
        clear hJ
        have f34 : ρ (.tmp 34) = .pointer (some ⟨E, 4, none⟩) := h4 6 34 (by kernel_rfl) (by kernel_rfl)
        have c := (HJ.out.far (HBE.out.below (ext_drew (ext_refl _))) HEC.out).cell 4 (v := .int .i64 v) rfl
        clear h4 h5 hg
        unfold OpY
        go_simp
        first | exact ⟨rfl, HJ.out.other 7 (by decide) (by decide)⟩ | exact ⟨Or.inr rfl, HJ.out.other 7 (by decide) (by decide)⟩
      · refine ⟨(fun g b h => by cases h), fun l w' hl hdp hJ hg ρ h1 h2 h3 h4 h5 => ?_⟩
        have HJ := hid hJ
        clear hJ
        have f28 : ρ (.tmp 28) = .pointer (some ⟨C, 0, none⟩) := h4 0 28 (by kernel_rfl) (by kernel_rfl)
        clear h4 h5 hg
        unfold OpY
        go_simp
        first | exact ⟨rfl, HJ.out.other 8 (by decide) (by decide)⟩ | exact ⟨Or.inr rfl, HJ.out.other 8 (by decide) (by decide)⟩
      · refine ⟨(fun g b h => by cases h), fun l w' hl hdp hJ hg ρ h1 h2 h3 h4 h5 => ?_⟩
        have HJ := hid hJ
        clear hJ
        have f36 : ρ (.tmp 36) = .pointer (some ⟨C, 0, none⟩) := h4 8 36 (by kernel_rfl) (by kernel_rfl)
        clear h4 h5 hg
        unfold OpY
        go_simp
        first | exact ⟨rfl, HJ.out.other 9 (by decide) (by decide)⟩ | exact ⟨Or.inr rfl, HJ.out.other 9 (by decide) (by decide)⟩
      · refine ⟨(fun g b h => by cases h), fun l w' hl hdp hJ hg ρ h1 h2 h3 h4 h5 => ?_⟩
        have HJ := hid hJ
        clear hJ
        have f37 : ρ (.tmp 37) = .pointer (some ⟨C, 4, none⟩) := h4 9 37 (by kernel_rfl) (by kernel_rfl)
        have f33 : ρ (.tmp 33) = .int .i64 (v) := h4 5 33 (by kernel_rfl) (by kernel_rfl)
        obtain ⟨hw, hq⟩ := HJ.out.first (by decide) hl
        subst hw
        have HQ := hid hq
        have cc := (HBC.out.below (ext_drew (ext_refl _))).cell 4 (v := .int .i64 (c.clock)) rfl
        have zz := (HBC.out.below (ext_drew (ext_refl _))).free 4
        clear hq
        clear h4 h5 hg
        unfold OpY
        go_simp
        exact HQ.out
      · refine ⟨(fun g b h => by cases h), fun l w' hl hdp hJ hg ρ h1 h2 h3 h4 h5 => ?_⟩
        have HJ := hid hJ
        clear hJ
        have f29 : ρ (.tmp 29) = .pointer (some ⟨C, 0, none⟩) := h4 1 29 (by kernel_rfl) (by kernel_rfl)
        clear h4 h5 hg
        unfold OpY
        go_simp
        first | exact ⟨rfl, HJ.out.other 11 (by decide) (by decide)⟩ | exact ⟨Or.inr rfl, HJ.out.other 11 (by decide) (by decide)⟩
      · refine ⟨(fun g b h => by cases h), fun l w' hl hdp hJ hg ρ h1 h2 h3 h4 h5 => ?_⟩
        have HJ := hid hJ
        clear hJ
        have f38 : ρ (.tmp 38) = .pointer (some ⟨C, 0, none⟩) := h4 11 38 (by kernel_rfl) (by kernel_rfl)
        clear h4 h5 hg
        unfold OpY
        go_simp
        first | exact ⟨rfl, HJ.out.other 12 (by decide) (by decide)⟩ | exact ⟨Or.inr rfl, HJ.out.other 12 (by decide) (by decide)⟩
      · refine ⟨(fun g b h => by cases h), fun l w' hl hdp hJ hg ρ h1 h2 h3 h4 h5 => ?_⟩
        have HJ := hid hJ
        clear hJ
        have f39 : ρ (.tmp 39) = .pointer (some ⟨C, 11, none⟩) := h4 12 39 (by kernel_rfl) (by kernel_rfl)
        have f31 : ρ (.tmp 31) = .int .i64 ((th : Int)) := h4 3 31 (by kernel_rfl) (by kernel_rfl)
        clear h4 h5 hg
        unfold OpY
        go_simp
        first | exact ⟨rfl, HJ.out.other 13 (by decide) (by decide)⟩ | exact ⟨Or.inr rfl, HJ.out.other 13 (by decide) (by decide)⟩
      · refine ⟨(fun g b h => by cases h), fun l w' hl hdp hJ hg ρ h1 h2 h3 h4 h5 => ?_⟩
        have HJ := hid hJ
        clear hJ
        have f40 : ρ (.tmp 40) = .pointer (some ⟨C, 11 + th, none⟩) := h4 13 40 (by kernel_rfl) (by kernel_rfl)
        have f35 : ρ (.tmp 35) = .int .i64 (v) := h4 7 35 (by kernel_rfl) (by kernel_rfl)
        obtain ⟨hw, hq⟩ := HJ.out.second (by decide) (hdp 10 (by kernel_rfl)) hl
        subst hw
        have HQ := hid hq
        have cc2 := HBC.out.cell (11 + th) (cdr_bumped T V S { c with last := th } HTH.out)
        have zz2 := HBC.out.free (11 + th)
        have cc := ((HBC.out.below (ext_drew (ext_refl _))).set 4 (.int .i64 v)).cell (11 + th) (cdr_bumped T V S { c with last := th, clock := v } HTH.out)
        have zz := ((HBC.out.below (ext_drew (ext_refl _))).set 4 (.int .i64 v)).free (11 + th)
        clear hq
        clear h4 h5 hg
        unfold OpY
        go_simp
        exact HQ.out
    case hdone =>
      intro W3 hJ
      have hw := hJ.done
      clear hJ
      have hb3 := ((HBC.out.below (ext_drew (ext_refl _))).set 4 (.int .i64 v))
      have hb4 : Blk _ C (cdrA T V S { c with last := th, clock := v }) 90 := hb3
      have hb5 := hb4.set (11 + th) (.int .i64 v)
      rw [set_bumped T V S v _ HTH.out] at hb5
      have hb6 : Blk W3 C (cdrA T V S (knowsC c ⟨5, (th : Int), tx, at_, v, x, why⟩)) 90 := by rw [hw]; exact hb5
      have ht3 : Turn [C] W W3 := by rw [hw]; exact ((HT2.out.drew).setCell (Or.inl (by simp)) _).setCell (Or.inl (by simp)) _
      have HB6 := hid hb6
      have HT3 := hid ht3
      clear hb3 hb4 hb5 hb6 ht3 hw
      go_wp2_with fail
      go_end0
      exact ⟨rfl, HB6.out, HT3.out⟩
  by_cases k38 : kind = 3 ∨ kind = 8
  · obtain hat := HAT.out
    subst hat
    have hq32 := hq k38
    have HQQ := hid hq32
    have jq0 : (0 : Int) ≤ (q : Int) := by omega
    have jq1 : (q : Int) < 32 := by omega
    clear hq hq32
    by_cases k3 : kind = 3
    · subst k3
      clear k38
      go_enter Tryd.func41, Tryd.ntmps41
      go_wp2_with fail
      generalize hW2 : (W.setCell ⟨C, 3, none⟩ (.int .i64 (th : Int))).alloc (.cells #[.int .u8 3, .int .i64 (th : Int), .int .i64 tx, .int .i64 (q : Int), .int .i64 v, .int .i64 x, .int .u8 why] 33) = W2 at *
      generalize hEE : W.heap.size = E at *
      clear e0 e1 c3w z3w hcl hcn hW2 hEE
      apply wp_region_knownJ (fun qq => ([.pointer (some ⟨C, 0, none⟩), .pointer (some ⟨E, 3, none⟩), .int .i64 ((q : Int)), .pointer (some ⟨E, 5, none⟩), .int .i64 (x), .pointer (some ⟨C, 0, none⟩), .pointer (some ⟨C, 17, none⟩), .pointer (some ⟨C, 17 + q, none⟩), undef] : List Value).getD qq undef) (LS W2 ⟨C, 17 + q, none⟩ (.int .i64 x) 9 8)
      focus (simp [putAll, dstOf, Act.put, List.getD]; rfl)
      case hm => kernel_rfl
      case hd => kernel_rfl
      case hb => kernel_rfl
      case hng => kernel_rfl
      case hsz => kernel_rfl
      case hext => exact fun l l' w h H => H.ext (by decide) (fun i hi => h i hi)
      case h0 => exact LS.start
      case hstep =>
        refine ⟨?_, ?_, ?_, ?_, ?_, ?_, ?_, ?_, ?_,  trivial⟩
        · refine ⟨(fun g b h => by cases h), fun l w' hl hdp hJ hg ρ h1 h2 h3 h4 h5 => ?_⟩
          have HJ := hid hJ
          clear hJ
          have f0 : ρ (.tmp 0) = .pointer (some ⟨C, 0, none⟩) := h5 0 (by kernel_rfl)
          have h0 := HJ.out.not (i := 0) (by decide) (by decide) hl
          clear h0 h4 h5 hg
          unfold OpY
          go_simp
          first | exact ⟨rfl, HJ.out.put (i := 0) (by decide) (by decide) hl (fun e => absurd e (by decide)) (fun e => absurd e (by decide))⟩ | exact ⟨Or.inr rfl, HJ.out.put (i := 0) (by decide) (by decide) hl (fun e => absurd e (by decide)) (fun e => absurd e (by decide))⟩
        · refine ⟨(fun g b h => by cases h), fun l w' hl hdp hJ hg ρ h1 h2 h3 h4 h5 => ?_⟩
          have HJ := hid hJ
          clear hJ
          have f3 : ρ (.tmp 3) = .pointer (some ⟨E, 0, none⟩) := h5 3 (by kernel_rfl)
          have h0 := HJ.out.not (i := 1) (by decide) (by decide) hl
          clear h0 h4 h5 hg
          unfold OpY
          go_simp
          first | exact ⟨rfl, HJ.out.put (i := 1) (by decide) (by decide) hl (fun e => absurd e (by decide)) (fun e => absurd e (by decide))⟩ | exact ⟨Or.inr rfl, HJ.out.put (i := 1) (by decide) (by decide) hl (fun e => absurd e (by decide)) (fun e => absurd e (by decide))⟩
        · refine ⟨(fun g b h => by cases h), fun l w' hl hdp hJ hg ρ h1 h2 h3 h4 h5 => ?_⟩
          have HJ := hid hJ
          clear hJ
          have f45 : ρ (.tmp 45) = .pointer (some ⟨E, 3, none⟩) := h4 1 45 (by kernel_rfl) (by kernel_rfl)
          have h0 := HJ.out.not (i := 2) (by decide) (by decide) hl
          have hw := HJ.out.pre h0; subst hw; have c := (HBE.out.below (ext_drew (ext_refl _))).cell 3 (v := .int .i64 (q : Int)) rfl
          clear h0 h4 h5 hg
          unfold OpY
          go_simp
          first | exact ⟨rfl, HJ.out.put (i := 2) (by decide) (by decide) hl (fun e => absurd e (by decide)) (fun e => absurd e (by decide))⟩ | exact ⟨Or.inr rfl, HJ.out.put (i := 2) (by decide) (by decide) hl (fun e => absurd e (by decide)) (fun e => absurd e (by decide))⟩
        · refine ⟨(fun g b h => by cases h), fun l w' hl hdp hJ hg ρ h1 h2 h3 h4 h5 => ?_⟩
          have HJ := hid hJ
          clear hJ
          have f3 : ρ (.tmp 3) = .pointer (some ⟨E, 0, none⟩) := h5 3 (by kernel_rfl)
          have h0 := HJ.out.not (i := 3) (by decide) (by decide) hl
          clear h0 h4 h5 hg
          unfold OpY
          go_simp
          first | exact ⟨rfl, HJ.out.put (i := 3) (by decide) (by decide) hl (fun e => absurd e (by decide)) (fun e => absurd e (by decide))⟩ | exact ⟨Or.inr rfl, HJ.out.put (i := 3) (by decide) (by decide) hl (fun e => absurd e (by decide)) (fun e => absurd e (by decide))⟩
        · refine ⟨(fun g b h => by cases h), fun l w' hl hdp hJ hg ρ h1 h2 h3 h4 h5 => ?_⟩
          have HJ := hid hJ
          clear hJ
          have f47 : ρ (.tmp 47) = .pointer (some ⟨E, 5, none⟩) := h4 3 47 (by kernel_rfl) (by kernel_rfl)
          have h0 := HJ.out.not (i := 4) (by decide) (by decide) hl
          have hw := HJ.out.pre h0; subst hw; have c := (HBE.out.below (ext_drew (ext_refl _))).cell 5 (v := .int .i64 x) rfl
          clear h0 h4 h5 hg
          unfold OpY
          go_simp
          first | exact ⟨rfl, HJ.out.put (i := 4) (by decide) (by decide) hl (fun e => absurd e (by decide)) (fun e => absurd e (by decide))⟩ | exact ⟨Or.inr rfl, HJ.out.put (i := 4) (by decide) (by decide) hl (fun e => absurd e (by decide)) (fun e => absurd e (by decide))⟩
        · refine ⟨(fun g b h => by cases h), fun l w' hl hdp hJ hg ρ h1 h2 h3 h4 h5 => ?_⟩
          have HJ := hid hJ
          clear hJ
          have f44 : ρ (.tmp 44) = .pointer (some ⟨C, 0, none⟩) := h4 0 44 (by kernel_rfl) (by kernel_rfl)
          have h0 := HJ.out.not (i := 5) (by decide) (by decide) hl
          clear h0 h4 h5 hg
          unfold OpY
          go_simp
          first | exact ⟨rfl, HJ.out.put (i := 5) (by decide) (by decide) hl (fun e => absurd e (by decide)) (fun e => absurd e (by decide))⟩ | exact ⟨Or.inr rfl, HJ.out.put (i := 5) (by decide) (by decide) hl (fun e => absurd e (by decide)) (fun e => absurd e (by decide))⟩
        · refine ⟨(fun g b h => by cases h), fun l w' hl hdp hJ hg ρ h1 h2 h3 h4 h5 => ?_⟩
          have HJ := hid hJ
          clear hJ
          have f49 : ρ (.tmp 49) = .pointer (some ⟨C, 0, none⟩) := h4 5 49 (by kernel_rfl) (by kernel_rfl)
          have h0 := HJ.out.not (i := 6) (by decide) (by decide) hl
          clear h0 h4 h5 hg
          unfold OpY
          go_simp
          first | exact ⟨rfl, HJ.out.put (i := 6) (by decide) (by decide) hl (fun e => absurd e (by decide)) (fun _ => hdp 5 (by kernel_rfl))⟩ | exact ⟨Or.inr rfl, HJ.out.put (i := 6) (by decide) (by decide) hl (fun e => absurd e (by decide)) (fun _ => hdp 5 (by kernel_rfl))⟩
        · refine ⟨(fun g b h => by cases h), fun l w' hl hdp hJ hg ρ h1 h2 h3 h4 h5 => ?_⟩
          have HJ := hid hJ
          clear hJ
          have f50 : ρ (.tmp 50) = .pointer (some ⟨C, 17, none⟩) := h4 6 50 (by kernel_rfl) (by kernel_rfl)
          have f46 : ρ (.tmp 46) = .int .i64 ((q : Int)) := h4 2 46 (by kernel_rfl) (by kernel_rfl)
          have h0 := HJ.out.not (i := 7) (by decide) (by decide) hl
          clear h0 h4 h5 hg
          unfold OpY
          go_simp
          first | exact ⟨rfl, HJ.out.put (i := 7) (by decide) (by decide) hl (fun _ => hdp 6 (by kernel_rfl)) (fun e => absurd e (by decide))⟩ | exact ⟨Or.inr rfl, HJ.out.put (i := 7) (by decide) (by decide) hl (fun _ => hdp 6 (by kernel_rfl)) (fun e => absurd e (by decide))⟩
        · refine ⟨(fun g b h => by cases h), fun l w' hl hdp hJ hg ρ h1 h2 h3 h4 h5 => ?_⟩
          have HJ := hid hJ
          clear hJ
          have f51 : ρ (.tmp 51) = .pointer (some ⟨C, 17 + q, none⟩) := h4 7 51 (by kernel_rfl) (by kernel_rfl)
          have f48 : ρ (.tmp 48) = .int .i64 (x) := h4 4 48 (by kernel_rfl) (by kernel_rfl)
          have h15 := hdp 7 (by kernel_rfl)
          have h14 := HJ.out.d1 h15
          have h13 := HJ.out.d2 h14
          have hall : ∀ z, z < 9 → z ≠ 8 → l z = true := all_of (si := 8) h13 h14 (by kernel_rfl) hdp
          obtain ⟨hw, hq⟩ := HJ.out.store (by decide) hl hall
          subst hw
          have HQ := hid hq
          have cc := (HBC.out.below (ext_drew (ext_refl _))).cell (17 + q) (cdr_x T V S { c with last := th } HQQ.out)
          have zz := (HBC.out.below (ext_drew (ext_refl _))).free (17 + q)
          have cc2 := HBC.out.cell (17 + q) (cdr_x T V S { c with last := th } HQQ.out)
          have zz2 := HBC.out.free (17 + q)
          clear hall hq h13 h14 h15 h4 h5 hg
          unfold OpY
          go_simp
          exact HQ.out
      case hdone =>
        intro W3 hJ
        have hw := hJ.fin rfl
        clear hJ
        have hb5 := (HBC.out.below (ext_drew (ext_refl _))).set (17 + q) (.int .i64 x)
        rw [set_x T V S x _ HQQ.out] at hb5
        have hb6 : Blk W3 C (cdrA T V S (knowsC c ⟨3, (th : Int), tx, (q : Int), v, x, why⟩)) 90 := by rw [hw]; exact hb5
        have ht3 : Turn [C] W W3 := by rw [hw]; exact (HT2.out.drew).setCell (Or.inl (by simp)) _
        have HB6 := hid hb6
        have HT3 := hid ht3
        clear hb5 hb6 ht3 hw
        go_wp2_with fail
        go_end0
        exact ⟨rfl, HB6.out, HT3.out⟩
    have k8 : kind = 8 := by omega
    subst k8
    clear k38
    go_enter Tryd.func41, Tryd.ntmps41
    go_wp2_with fail
    generalize hW2 : (W.setCell ⟨C, 3, none⟩ (.int .i64 (th : Int))).alloc (.cells #[.int .u8 8, .int .i64 (th : Int), .int .i64 tx, .int .i64 (q : Int), .int .i64 v, .int .i64 x, .int .u8 why] 33) = W2 at *
    generalize hEE : W.heap.size = E at *
    clear e0 e1 c3w z3w hcl hcn hW2 hEE
    apply wp_region_knownJ (fun qq => ([.pointer (some ⟨C, 0, none⟩), .pointer (some ⟨E, 3, none⟩), .int .i64 ((q : Int)), .pointer (some ⟨E, 5, none⟩), .int .i64 (x), .pointer (some ⟨C, 0, none⟩), .pointer (some ⟨C, 17, none⟩), .pointer (some ⟨C, 17 + q, none⟩), undef] : List Value).getD qq undef) (LS W2 ⟨C, 17 + q, none⟩ (.int .i64 x) 9 8)
    focus (simp [putAll, dstOf, Act.put, List.getD]; rfl)
    case hm => kernel_rfl
    case hd => kernel_rfl
    case hb => kernel_rfl
    case hng => kernel_rfl
    case hsz => kernel_rfl
    case hext => exact fun l l' w h H => H.ext (by decide) (fun i hi => h i hi)
    case h0 => exact LS.start
    case hstep =>
      refine ⟨?_, ?_, ?_, ?_, ?_, ?_, ?_, ?_, ?_,  trivial⟩
      · refine ⟨(fun g b h => by cases h), fun l w' hl hdp hJ hg ρ h1 h2 h3 h4 h5 => ?_⟩
        have HJ := hid hJ
        clear hJ
        have f0 : ρ (.tmp 0) = .pointer (some ⟨C, 0, none⟩) := h5 0 (by kernel_rfl)
        have h0 := HJ.out.not (i := 0) (by decide) (by decide) hl
        clear h0 h4 h5 hg
        unfold OpY
        go_simp
        first | exact ⟨rfl, HJ.out.put (i := 0) (by decide) (by decide) hl (fun e => absurd e (by decide)) (fun e => absurd e (by decide))⟩ | exact ⟨Or.inr rfl, HJ.out.put (i := 0) (by decide) (by decide) hl (fun e => absurd e (by decide)) (fun e => absurd e (by decide))⟩
      · refine ⟨(fun g b h => by cases h), fun l w' hl hdp hJ hg ρ h1 h2 h3 h4 h5 => ?_⟩
        have HJ := hid hJ
        clear hJ
        have f3 : ρ (.tmp 3) = .pointer (some ⟨E, 0, none⟩) := h5 3 (by kernel_rfl)
        have h0 := HJ.out.not (i := 1) (by decide) (by decide) hl
        clear h0 h4 h5 hg
        unfold OpY
        go_simp
        first | exact ⟨rfl, HJ.out.put (i := 1) (by decide) (by decide) hl (fun e => absurd e (by decide)) (fun e => absurd e (by decide))⟩ | exact ⟨Or.inr rfl, HJ.out.put (i := 1) (by decide) (by decide) hl (fun e => absurd e (by decide)) (fun e => absurd e (by decide))⟩
      · refine ⟨(fun g b h => by cases h), fun l w' hl hdp hJ hg ρ h1 h2 h3 h4 h5 => ?_⟩
        have HJ := hid hJ
        clear hJ
        have f45 : ρ (.tmp 45) = .pointer (some ⟨E, 3, none⟩) := h4 1 45 (by kernel_rfl) (by kernel_rfl)
        have h0 := HJ.out.not (i := 2) (by decide) (by decide) hl
        have hw := HJ.out.pre h0; subst hw; have c := (HBE.out.below (ext_drew (ext_refl _))).cell 3 (v := .int .i64 (q : Int)) rfl
        clear h0 h4 h5 hg
        unfold OpY
        go_simp
        first | exact ⟨rfl, HJ.out.put (i := 2) (by decide) (by decide) hl (fun e => absurd e (by decide)) (fun e => absurd e (by decide))⟩ | exact ⟨Or.inr rfl, HJ.out.put (i := 2) (by decide) (by decide) hl (fun e => absurd e (by decide)) (fun e => absurd e (by decide))⟩
      · refine ⟨(fun g b h => by cases h), fun l w' hl hdp hJ hg ρ h1 h2 h3 h4 h5 => ?_⟩
        have HJ := hid hJ
        clear hJ
        have f3 : ρ (.tmp 3) = .pointer (some ⟨E, 0, none⟩) := h5 3 (by kernel_rfl)
        have h0 := HJ.out.not (i := 3) (by decide) (by decide) hl
        clear h0 h4 h5 hg
        unfold OpY
        go_simp
        first | exact ⟨rfl, HJ.out.put (i := 3) (by decide) (by decide) hl (fun e => absurd e (by decide)) (fun e => absurd e (by decide))⟩ | exact ⟨Or.inr rfl, HJ.out.put (i := 3) (by decide) (by decide) hl (fun e => absurd e (by decide)) (fun e => absurd e (by decide))⟩
      · refine ⟨(fun g b h => by cases h), fun l w' hl hdp hJ hg ρ h1 h2 h3 h4 h5 => ?_⟩
        have HJ := hid hJ
        clear hJ
        have f47 : ρ (.tmp 47) = .pointer (some ⟨E, 5, none⟩) := h4 3 47 (by kernel_rfl) (by kernel_rfl)
        have h0 := HJ.out.not (i := 4) (by decide) (by decide) hl
        have hw := HJ.out.pre h0; subst hw; have c := (HBE.out.below (ext_drew (ext_refl _))).cell 5 (v := .int .i64 x) rfl
        clear h0 h4 h5 hg
        unfold OpY
        go_simp
        first | exact ⟨rfl, HJ.out.put (i := 4) (by decide) (by decide) hl (fun e => absurd e (by decide)) (fun e => absurd e (by decide))⟩ | exact ⟨Or.inr rfl, HJ.out.put (i := 4) (by decide) (by decide) hl (fun e => absurd e (by decide)) (fun e => absurd e (by decide))⟩
      · refine ⟨(fun g b h => by cases h), fun l w' hl hdp hJ hg ρ h1 h2 h3 h4 h5 => ?_⟩
        have HJ := hid hJ
        clear hJ
        have f44 : ρ (.tmp 44) = .pointer (some ⟨C, 0, none⟩) := h4 0 44 (by kernel_rfl) (by kernel_rfl)
        have h0 := HJ.out.not (i := 5) (by decide) (by decide) hl
        clear h0 h4 h5 hg
        unfold OpY
        go_simp
        first | exact ⟨rfl, HJ.out.put (i := 5) (by decide) (by decide) hl (fun e => absurd e (by decide)) (fun e => absurd e (by decide))⟩ | exact ⟨Or.inr rfl, HJ.out.put (i := 5) (by decide) (by decide) hl (fun e => absurd e (by decide)) (fun e => absurd e (by decide))⟩
      · refine ⟨(fun g b h => by cases h), fun l w' hl hdp hJ hg ρ h1 h2 h3 h4 h5 => ?_⟩
        have HJ := hid hJ
        clear hJ
        have f49 : ρ (.tmp 49) = .pointer (some ⟨C, 0, none⟩) := h4 5 49 (by kernel_rfl) (by kernel_rfl)
        have h0 := HJ.out.not (i := 6) (by decide) (by decide) hl
        clear h0 h4 h5 hg
        unfold OpY
        go_simp
        first | exact ⟨rfl, HJ.out.put (i := 6) (by decide) (by decide) hl (fun e => absurd e (by decide)) (fun _ => hdp 5 (by kernel_rfl))⟩ | exact ⟨Or.inr rfl, HJ.out.put (i := 6) (by decide) (by decide) hl (fun e => absurd e (by decide)) (fun _ => hdp 5 (by kernel_rfl))⟩
      · refine ⟨(fun g b h => by cases h), fun l w' hl hdp hJ hg ρ h1 h2 h3 h4 h5 => ?_⟩
        have HJ := hid hJ
        clear hJ
        have f50 : ρ (.tmp 50) = .pointer (some ⟨C, 17, none⟩) := h4 6 50 (by kernel_rfl) (by kernel_rfl)
        have f46 : ρ (.tmp 46) = .int .i64 ((q : Int)) := h4 2 46 (by kernel_rfl) (by kernel_rfl)
        have h0 := HJ.out.not (i := 7) (by decide) (by decide) hl
        clear h0 h4 h5 hg
        unfold OpY
        go_simp
        first | exact ⟨rfl, HJ.out.put (i := 7) (by decide) (by decide) hl (fun _ => hdp 6 (by kernel_rfl)) (fun e => absurd e (by decide))⟩ | exact ⟨Or.inr rfl, HJ.out.put (i := 7) (by decide) (by decide) hl (fun _ => hdp 6 (by kernel_rfl)) (fun e => absurd e (by decide))⟩
      · refine ⟨(fun g b h => by cases h), fun l w' hl hdp hJ hg ρ h1 h2 h3 h4 h5 => ?_⟩
        have HJ := hid hJ
        clear hJ
        have f51 : ρ (.tmp 51) = .pointer (some ⟨C, 17 + q, none⟩) := h4 7 51 (by kernel_rfl) (by kernel_rfl)
        have f48 : ρ (.tmp 48) = .int .i64 (x) := h4 4 48 (by kernel_rfl) (by kernel_rfl)
        have h15 := hdp 7 (by kernel_rfl)
        have h14 := HJ.out.d1 h15
        have h13 := HJ.out.d2 h14
        have hall : ∀ z, z < 9 → z ≠ 8 → l z = true := all_of (si := 8) h13 h14 (by kernel_rfl) hdp
        obtain ⟨hw, hq⟩ := HJ.out.store (by decide) hl hall
        subst hw
        have HQ := hid hq
        have cc := (HBC.out.below (ext_drew (ext_refl _))).cell (17 + q) (cdr_x T V S { c with last := th } HQQ.out)
        have zz := (HBC.out.below (ext_drew (ext_refl _))).free (17 + q)
        have cc2 := HBC.out.cell (17 + q) (cdr_x T V S { c with last := th } HQQ.out)
        have zz2 := HBC.out.free (17 + q)
        clear hall hq h13 h14 h15 h4 h5 hg
        unfold OpY
        go_simp
        exact HQ.out
    case hdone =>
      intro W3 hJ
      have hw := hJ.fin rfl
      clear hJ
      have hb5 := (HBC.out.below (ext_drew (ext_refl _))).set (17 + q) (.int .i64 x)
      rw [set_x T V S x _ HQQ.out] at hb5
      have hb6 : Blk W3 C (cdrA T V S (knowsC c ⟨8, (th : Int), tx, (q : Int), v, x, why⟩)) 90 := by rw [hw]; exact hb5
      have ht3 : Turn [C] W W3 := by rw [hw]; exact (HT2.out.drew).setCell (Or.inl (by simp)) _
      have HB6 := hid hb6
      have HT3 := hid ht3
      clear hb5 hb6 ht3 hw
      go_wp2_with fail
      go_end0
      exact ⟨rfl, HB6.out, HT3.out⟩
  have g1 : (kind == 1) = false := by simp [k1]
  have g5 : (kind == 5) = false := by simp [k5]
  have g3 : (kind == 3) = false := by simp; omega
  have g8 : (kind == 8) = false := by simp; omega
  have f1 : decide (kind = 1) = false := by simp [k1]
  have f5 : decide (kind = 5) = false := by simp [k5]
  have f3 : decide (kind = 3) = false := by simp; omega
  have f8 : decide (kind = 8) = false := by simp; omega
  have hkn : knowsC c ⟨kind, (th : Int), tx, at_, v, x, why⟩ = { c with last := (th : Int) } := by unfold knowsC; rw [if_neg k1, if_neg k5, if_neg k38]
  rw [hkn]
  clear k1 k5 k38 hq hkn
  go_enter Tryd.func41, Tryd.ntmps41
  go_wp2_with fail
  go_end0
  exact ⟨rfl, HBC.out, HT2.out⟩
end Go.Proofs.YtokkafiphchejaaDoor
/-
  Walk: the document's New of a coder.
-/
namespace Go.Proofs.YtokkafiphchejaaDoor
set_option linter.unusedVariables false
set_option linter.unusedSimpArgs false
set_option linter.unusedVariables false
open Go Go.RowKit
set_option maxRecDepth 100000 in
set_option maxHeartbeats 4000000 in
theorem newR_any (T V S : Int) (W : World) (hok : sizesB T V S = true) :
    Calls Tryd.prog 14 #[.int .i64 T, .int .i64 V, .int .i64 S] W fun e' W' => e' = .returned (.tuple #[.pointer (some ⟨W.heap.size, 0, none⟩), .int .i64 0]) ∧ Blk W' W.heap.size (cdrA T V S newC) 90 ∧ Below W.heap.size W W' := by
  unfold sizesB at hok
  have h := of_decide_eq_true hok
  have t1 : decide (T < 1) = false := by rw [decide_eq_false_iff_not]; omega
  have t2 : decide (6 < T) = false := by rw [decide_eq_false_iff_not]; omega
  have v1 : decide (V < 1) = false := by rw [decide_eq_false_iff_not]; omega
  have v2 : decide (32 < V) = false := by rw [decide_eq_false_iff_not]; omega
  have s1 : decide (S < 1) = false := by rw [decide_eq_false_iff_not]; omega
  have s2 : decide (V < S) = false := by rw [decide_eq_false_iff_not]; omega
  clear hok h
  obtain ⟨Q, hQ⟩ : ∃ Q : Ending → World → Prop, Q = fun e' W' => e' = .returned (.tuple #[.pointer (some ⟨W.heap.size, 0, none⟩), .int .i64 0]) ∧ Blk W' W.heap.size (cdrA T V S newC) 90 ∧ Below W.heap.size W W' := ⟨_, rfl⟩
  rw [← hQ]
  have HQ := hid hQ
  clear hQ
  go_enter Tryd.func14, Tryd.ntmps14
  go_wp2_with fail
  rw [HQ.out]
  exact ⟨rfl, Blk.new _ _ _, ext_alloc (ext_refl _) _⟩
set_option maxRecDepth 100000 in
set_option maxHeartbeats 4000000 in
theorem newR_bad (T V S : Int) (W : World) (hok : sizesB T V S = false) :
    Calls Tryd.prog 14 #[.int .i64 T, .int .i64 V, .int .i64 S] W fun e' W' => e' = .returned (.tuple #[.pointer none, .int .i64 1]) ∧ W = W' := by
  unfold sizesB at hok
  have h := of_decide_eq_false hok
  clear hok
  obtain ⟨Q, hQ⟩ : ∃ Q : Ending → World → Prop, Q = fun e' W' => e' = .returned (.tuple #[.pointer none, .int .i64 1]) ∧ W = W' := ⟨_, rfl⟩
  rw [← hQ]
  have HQ := hid hQ
  clear hQ
  have hc : (decide (T < 1) = true) ∨ (decide (T < 1) = false ∧ decide (6 < T) = true) ∨ (decide (T < 1) = false ∧ decide (6 < T) = false ∧ decide (V < 1) = true) ∨ (decide (T < 1) = false ∧ decide (6 < T) = false ∧ decide (V < 1) = false ∧ decide (32 < V) = true) ∨ (decide (T < 1) = false ∧ decide (6 < T) = false ∧ decide (V < 1) = false ∧ decide (32 < V) = false ∧ decide (S < 1) = true) ∨ (decide (T < 1) = false ∧ decide (6 < T) = false ∧ decide (V < 1) = false ∧ decide (32 < V) = false ∧ decide (S < 1) = false ∧ decide (V < S) = true) := by
    simp only [decide_eq_true_eq, decide_eq_false_iff_not]
    omega
  clear h
  rcases hc with h1 | ⟨h1, h2⟩ | ⟨h1, h2, h3⟩ | ⟨h1, h2, h3, h4⟩ | ⟨h1, h2, h3, h4, h5⟩ | ⟨h1, h2, h3, h4, h5, h6⟩
  all_goals
    go_enter Tryd.func14, Tryd.ntmps14
    go_wp2_with fail
    rw [HQ.out]
    exact ⟨rfl, rfl⟩
end Go.Proofs.YtokkafiphchejaaDoor
/-
  A box of sevE cells, laid and filled in any order among reads: what holds all along. Any program.
-/
namespace Go.Proofs.YtokkafiphchejaaDoor
set_option linter.unusedVariables false
set_option linter.unusedSimpArgs false
open Go Go.RowKit
def sevE (w : World) (b : Nat) (v0 v1 v2 v3 v4 v5 v6 : Value) : World := ((((((w.setCell ⟨b, 0, none⟩ v0).setCell ⟨b, 1, none⟩ v1).setCell ⟨b, 2, none⟩ v2).setCell ⟨b, 3, none⟩ v3).setCell ⟨b, 4, none⟩ v4).setCell ⟨b, 5, none⟩ v5).setCell ⟨b, 6, none⟩ v6
theorem setE7 {w : World} {b : Nat} {c0 c1 c2 c3 c4 c5 c6 : Value} {t : TypeId} (h : Blk w b #[c0, c1, c2, c3, c4, c5, c6] t) (v0 v1 v2 v3 v4 v5 v6 : Value) : Blk (sevE w b v0 v1 v2 v3 v4 v5 v6) b #[v0, v1, v2, v3, v4, v5, v6] t := by
  have := ((((((h.set 0 v0).set 1 v1).set 2 v2).set 3 v3).set 4 v4).set 5 v5).set 6 v6
  simpa [sevE] using this
theorem lowE7 {a w : World} {B b : Nat} (h : Below B a w) (hb : B ≤ b) (v0 v1 v2 v3 v4 v5 v6 : Value) : Below B a (sevE w b v0 v1 v2 v3 v4 v5 v6) :=
  ((((((h.setCell (p := ⟨b, 0, none⟩) hb v0).setCell (p := ⟨b, 1, none⟩) hb v1).setCell (p := ⟨b, 2, none⟩) hb v2).setCell (p := ⟨b, 3, none⟩) hb v3).setCell (p := ⟨b, 4, none⟩) hb v4).setCell (p := ⟨b, 5, none⟩) hb v5).setCell (p := ⟨b, 6, none⟩) hb v6
theorem arrE7 {cs : Array Value} (h : cs.size = 7) : ∃ c0 c1 c2 c3 c4 c5 c6, cs = #[c0, c1, c2, c3, c4, c5, c6] := by
  obtain ⟨l⟩ := cs
  match l, h with
  | [a, b, c, d, e, f, g], _ => exact ⟨a, b, c, d, e, f, g, rfl⟩
/-- n operations that yield what is known; an alloc; a store. -/
structure By (W0 : World) (n : Nat) (K : Nat → Value) (E : Array Value) (t : TypeId) (l : Nat → Bool) (v : Nat → Value) (w' : World) : Prop where
  mid : Below W0.heap.size W0 w'
  knw : ∀ i, i < n → l i = true → v i = K i
  als : l n = true → ∃ b cs, v n = .pointer (some ⟨b, 0, none⟩) ∧ W0.heap.size ≤ b ∧ Blk w' b cs t ∧ cs.size = 7 ∧ (l (n + 1) = true → cs = E)
  sts : l (n + 1) = true → l n = true
theorem By.ext {W0 : World} {n : Nat} {K : Nat → Value} {E : Array Value} {t : TypeId} {l l' : Nat → Bool} {v : Nat → Value} {w' : World} (h : ∀ i, i < n + 2 → l i = l' i) (H : By W0 n K E t l v w') : By W0 n K E t l' v w' where
  mid := H.mid
  knw c hc hl := H.knw c hc (by rw [h c (by omega)]; exact hl)
  als hl := by
    obtain ⟨b, cs, h1, h2, h3, h4, h5⟩ := H.als (by rw [h n (by omega)]; exact hl)
    exact ⟨b, cs, h1, h2, h3, h4, fun h6 => h5 (by rw [h (n + 1) (by omega)]; exact h6)⟩
  sts hl := by rw [← h n (by omega)]; exact H.sts (by rw [h (n + 1) (by omega)]; exact hl)
theorem By.start {W0 : World} {n : Nat} {K : Nat → Value} {E : Array Value} {t : TypeId} {v : Nat → Value} {w' : World} (h2 : Below W0.heap.size W0 w') : By W0 n K E t (fun _ => false) v w' where
  mid := h2
  knw c _ h := by cases h
  als h := by cases h
  sts h := by cases h
theorem By.get {W0 : World} {n : Nat} {K : Nat → Value} {E : Array Value} {t : TypeId} {l : Nat → Bool} {v : Nat → Value} {w' : World} (i : Nat) (hi : i < n) (H : By W0 n K E t l v w') : By W0 n K E t (doneL l i) (doneV v i (K i)) w' where
  mid := H.mid
  knw c hc hl := by
    unfold doneV
    unfold doneL at hl
    split
    · rename_i he; rw [he]
    · rename_i hne; rw [if_neg hne] at hl; exact H.knw c hc hl
  als hl := by
    unfold doneV
    unfold doneL at hl ⊢
    rw [if_neg (by omega)] at hl ⊢
    rw [if_neg (by omega)]
    exact H.als hl
  sts hl := by
    unfold doneL at hl ⊢
    rw [if_neg (by omega)] at hl ⊢
    exact H.sts hl
theorem By.alloc {W0 : World} {n : Nat} {K : Nat → Value} {E : Array Value} {Z : Array Value} {t : TypeId} {l : Nat → Bool} {v : Nat → Value} {w' : World} (hZ : Z.size = 7) (hl3 : l n = false) (H : By W0 n K E t l v w') :
    By W0 n K E t (doneL l n) (doneV v n (.pointer (some ⟨w'.heap.size, 0, none⟩))) (w'.alloc (.cells Z t)) := by
  have h0 : W0.heap.size ≤ w'.heap.size := H.mid.size
  have h6 : l (n + 1) = false := by
    cases h : l (n + 1) with
    | false => rfl
    | true => rw [H.sts h] at hl3; cases hl3
  exact {
    mid := ext_alloc H.mid _
    knw := fun c hc hl => by
      unfold doneV
      unfold doneL at hl
      rw [if_neg (by omega)] at hl ⊢
      exact H.knw c hc hl
    als := fun hl => by
      unfold doneV
      rw [if_pos rfl]
      refine ⟨_, Z, rfl, h0, Blk.new _ _ _, hZ, fun h => ?_⟩
      unfold doneL at h
      rw [if_neg (by omega)] at h
      rw [h6] at h; cases h
    sts := fun hl => by
      unfold doneL at hl ⊢
      rw [if_pos rfl] }
theorem By.store {W0 : World} {n : Nat} {K : Nat → Value} {E : Array Value} {v0 v1 v2 v3 v4 v5 v6 x : Value} {t : TypeId} {l : Nat → Bool} {v : Nat → Value} {w' : World} (b : Nat) (hE : E = #[v0, v1, v2, v3, v4, v5, v6]) (hl3 : l n = true) (hv : v n = .pointer (some ⟨b, 0, none⟩)) (H : By W0 n K E t l v w') :
    By W0 n K E t (doneL l (n + 1)) (doneV v (n + 1) x) (sevE w' b v0 v1 v2 v3 v4 v5 v6) := by
  obtain ⟨b', cs, h1, h2, h3, h4, -⟩ := H.als hl3
  rw [hv] at h1
  injection h1 with h1
  injection h1 with h1
  injection h1 with h1
  subst h1
  exact {
    mid := lowE7 H.mid h2 _ _ _ _ _ _ _
    knw := fun c hc hl => by
      unfold doneV
      unfold doneL at hl
      rw [if_neg (by omega)] at hl ⊢
      exact H.knw c hc hl
    als := fun hl => by
      unfold doneV
      rw [if_neg (by omega)]
      obtain ⟨c0, c1, c2, c3, c4, c5, c6, rfl⟩ := arrE7 h4
      exact ⟨b, _, hv, h2, setE7 h3 _ _ _ _ _ _ _, rfl, fun _ => hE.symm⟩
    sts := fun hl => by
      unfold doneL
      rw [if_neg (by omega)]; exact hl3 }
end Go.Proofs.YtokkafiphchejaaDoor
