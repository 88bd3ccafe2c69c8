/-
  Walk: the document's Bytes of an event (printed by gen_dw.py).
-/
import Derived.Test.YtokkafiphchejaaDoorDqA
import Derived.Test.YtokkafiphchejaaDoorDeL1b
namespace Go.Proofs.YtokkafiphchejaaDoor
set_option linter.unusedVariables false
set_option linter.unusedSimpArgs false
set_option linter.unusedVariables false
open Go Go.RowKit

/-- Reads and calls that leave what there was; the last operation keeps what was told. -/
structure LB (W : World) (n si : Nat) (l : Nat → Bool) (w' : World) : Prop where
  ord : l si = true → ∀ i, i < n → i ≠ si → l i = true
  be : Below W.heap.size W w'
section
variable {W : World} {n si : Nat} {l l' : Nat → Bool} {w' w'' : World}
theorem LB.ext (hsi : si < n) (h : ∀ i, i < n → l i = l' i) (H : LB W n si l w') : LB W n si l' w' where
  ord g i hi hne := by rw [← h i hi]; exact H.ord (by rw [h si hsi]; exact g) i hi hne
  be := H.be
theorem LB.start (h : Below W.heap.size W w') : LB W n si (fun _ => false) w' := ⟨fun h => by (cases h), h⟩
theorem LB.not (H : LB W n si l w') {i : Nat} (hi : i < n) (hne : i ≠ si) (hl : l i = false) : l si = false := by
  cases h : l si with
  | false => rfl
  | true => rw [H.ord h i hi hne] at hl; cases hl
theorem LB.put (H : LB W n si l w') {i : Nat} (hi : i < n) (hne : i ≠ si) (hl : l i = false) (hb : Below w'.heap.size w' w'') : LB W n si (doneL l i) w'' := by
  have h0 := H.not hi hne hl
  have e1 : doneL l i si = false := by unfold doneL; rw [if_neg (Ne.symm hne)]; exact h0
  exact ⟨fun g => by (rw [e1] at g; cases g), ext_trans H.be hb⟩
theorem LB.last (H : LB W n si l w') (hall : ∀ i, i < n → i ≠ si → l i = true) : LB W n si (doneL l si) w' :=
  ⟨fun _ i hi hn => by (unfold doneL; rw [if_neg hn]; exact hall i hi hn), H.be⟩
end
theorem putN10 (n : Nat) : (bstr (putN n)).size ≤ 10 := by rw [bstr_size]; exact putF_len 10 n
theorem bstr_app (a b : List Nat) : bstr (a ++ b) = bstr a ++ bstr b := by
  apply byt_inj
  rw [byt_append]
  simp [bstr, byt]
set_option maxRecDepth 100000 in
set_option maxHeartbeats 4000000 in
theorem rnum_i (x : Int) (w : World) (h : 0 ≤ x ∧ x ≤ 9223372036854775807) : Calls Tryd.prog 65 #[.int .i64 x] w fun e w' => e = .returned (.string (bstr (putN x.toNat))) ∧ Below w.heap.size w w' := by
  obtain ⟨n, rfl⟩ := Int.eq_ofNat_of_zero_le h.1
  exact rnum14_any n w (by omega)
theorem add_no {a b : ByteArray} (ha : a.size ≤ 100) (hb : b.size ≤ 100) : ¬ (9223372036854775807 < a.size + b.size) ∧ ¬ ((9223372036854775807 : Int) < (a.size : Int) + (b.size : Int)) ∧ (a ++ b).size ≤ 200 := by
  have h : (a ++ b).size = a.size + b.size := ByteArray.size_append
  omega
set_option maxRecDepth 100000 in
set_option maxHeartbeats 40000000 in
theorem rbytes_any (T V S : Int) (c : Cdr) (kind tx at_ v x why : Int) (th : Nat) (C : Nat) (W : World) (hC : Blk W C (cdrA T V S c) 90) (hc : OkC T c) (ht : tellsC T V S c ⟨kind, (th : Int), tx, at_, v, x, why⟩ = true) (hx : -9223372036854775808 ≤ x ∧ x ≤ 9223372036854775807) :
    Calls Tryd.prog 40 #[.pointer (some ⟨C, 0, none⟩), evA ⟨kind, (th : Int), tx, at_, v, x, why⟩] W fun e' W' => e' = .returned (.string (bstr (bytesC T c ⟨kind, (th : Int), tx, at_, v, x, why⟩))) ∧ Below W.heap.size W W' := by
  obtain ⟨a1, a2, a3⟩ := w_ats ht
  have hm0 := ht
  unfold tellsC at hm0
  rw [Bool.and_eq_true] at hm0
  obtain ⟨hm, hk2⟩ := hm0
  obtain ⟨hs, ⟨k1, k2, hw, t1, t2, x1, x2, v1, v2, b1, b2⟩, hb⟩ := may_sizes' hm
  have hlv : 0 ≤ leastV ⟨kind, (th : Int), tx, at_, v, x, why⟩ := by unfold leastV; split <;> omega
  have hpl : placesE ⟨kind, (th : Int), tx, at_, v, x, why⟩ V S ≤ 32 := by
    unfold placesE
    split
    · omega
    · split <;> omega
  dsimp only at hk2 k1 k2 hw t1 t2 x1 x2 v1 v2 b1 b2 hlv hpl
  obtain ⟨f1, f2, f3, f4⟩ := first_ok (T := T) (k := kind) (th := (th : Int)) (last := c.last) ⟨by omega, by omega⟩ ⟨k1, k2⟩ ⟨t1, t2⟩ hc.last
  obtain ⟨p, hpd⟩ : ∃ p, p = (kind - 1) * T := ⟨_, rfl⟩
  obtain ⟨r, hrd⟩ : ∃ r, r = ((th : Int) - c.last + T) % T := ⟨_, rfl⟩
  have hr0 : 0 ≤ r ∧ r < T := by rw [hrd]; exact ⟨Int.emod_nonneg _ (by omega), Int.emod_lt_of_pos _ (by omega)⟩
  have hcl := hc.last
  rw [← hpd, ← hrd] at f1 f2
  have HFI : Hid (firstC T c ⟨kind, (th : Int), tx, at_, v, x, why⟩ = p + r) := hid (by unfold firstC; rw [hpd, hrd])
  have kk0 : IntKind.i64.wrap kind = kind := IntWalk.i64_in _ (by omega)
  have kk1 : IntKind.i64.wrap (kind - 1) = kind - 1 := IntWalk.i64_in _ (by omega)
  have hp0 : 0 ≤ p := by rw [hpd]; exact Int.mul_nonneg (by omega) (by omega)
  have kk2 : IntKind.i64.wrap ((kind - 1) * T) = p := by rw [← hpd]; exact IntWalk.i64_in _ (by omega)
  have aa1 : IntKind.i64.wrap ((th : Int) - c.last) = (th : Int) - c.last := IntWalk.i64_in _ (by omega)
  have aa2 : IntKind.i64.wrap ((th : Int) - c.last + T) = (th : Int) - c.last + T := IntWalk.i64_in _ (by omega)
  have hr1 : ((th : Int) - c.last + T).tmod T = r := by rw [Int.tmod_eq_emod_of_nonneg (by omega)]; exact hrd.symm
  have hr2 : IntKind.i64.wrap r = r := IntWalk.i64_in _ (by omega)
  have hs1 : IntKind.i64.wrap (p + r) = p + r := IntWalk.i64_in _ (by omega)
  have t0' : (T == 0) = false := by simp; omega
  have t1' : ¬ T = 0 := by omega
  have t2' : decide (T = 0) = false := by simp; omega
  have t3' : ¬ T = -1 := by omega
  have t4' : (T == -1) = false := by simp; omega
  have HN0 := hid (fun W => rnum_i (p + r) W ⟨by omega, by omega⟩)
  obtain ⟨s0, hs0⟩ : ∃ s0, s0 = bstr (putN (p + r).toNat) := ⟨_, rfl⟩
  rw [← hs0] at HN0
  have z0 : s0.size ≤ 10 := by rw [hs0]; exact putN10 _
  have HS0 := hid hs0
  obtain ⟨W1, hW1⟩ : ∃ W1, W1 = W.alloc (.cells #[.int .u8 kind, .int .i64 (th : Int), .int .i64 tx, .int .i64 at_, .int .i64 v, .int .i64 x, .int .u8 why] 33) := ⟨_, rfl⟩
  have HB1 : Hid (Below W.heap.size W W1) := hid (by rw [hW1]; exact ext_alloc (ext_refl _) _)
  obtain ⟨E, hE⟩ : ∃ E, E = W.heap.size := ⟨_, rfl⟩
  have HBE : Hid (Blk W1 E #[.int .u8 kind, .int .i64 (th : Int), .int .i64 tx, .int .i64 at_, .int .i64 v, .int .i64 x, .int .u8 why] 33) := hid (by rw [hW1, hE]; exact Blk.new _ _ _)
  have HBC := hid (hC.below HB1.out)
  have HTH := hid (show th < 6 by omega)
  have jt0 : (0 : Int) ≤ (th : Int) := by omega
  have jt6 : (th : Int) < 6 := by omega
  have HF := hid (show (0 ≤ tx ∧ tx ≤ 5) ∧ (0 ≤ at_ ∧ at_ < 32) ∧ (0 ≤ v ∧ v ≤ 1099511627776) from ⟨⟨by omega, by omega⟩, ⟨by omega, by omega⟩, by omega, by omega⟩)
  have HK2 : Hid ((kind = 1 → c.clock ≤ v) ∧ (kind = 2 → v ≤ c.begun (th : Int)) ∧ (kind = 5 → c.clock < v)) := hid ⟨fun h => by subst h; simpa using hk2, fun h => by subst h; simpa using hk2, fun h => by subst h; simpa using hk2⟩
  have HWY := hid hw
  have HX := hid hx
  have HCC := hid hc
  have HAT := hid a1
  have HK13 : Hid (kind = 1 ∨ kind = 2 ∨ kind = 3 ∨ kind = 4 ∨ kind = 5 ∨ kind = 6 ∨ kind = 7 ∨ kind = 8 ∨ kind = 9 ∨ kind = 10 ∨ kind = 11 ∨ kind = 12 ∨ kind = 13) := hid (by omega)
  obtain ⟨Q, hQ⟩ : ∃ Q : Ending → World → Prop, Q = fun e' W' => e' = .returned (.string (bstr (bytesC T c ⟨kind, (th : Int), tx, at_, v, x, why⟩))) ∧ Below W.heap.size W W' := ⟨_, rfl⟩
  rw [← hQ]
  have HQ := hid hQ
  have HW1 := hid hW1
  have HE := hid hE
  dsimp only [evA]
  clear a1 a2 a3 ht hm hk2 hs k1 k2 hw t1 t2 x1 x2 v1 v2 b1 b2 hb hlv hpl f1 f2 f3 f4 hpd hrd hr0 hcl hp0 hs0 hW1 hE hC hc hx hQ
  go_enter Tryd.func40, Tryd.ntmps40
  go_wp2_with fail
  rw [← HW1.out, ← HE.out]
  clear HW1
  apply wp_region_knownJ9 (fun qq => ([.pointer (some ⟨E, 0, none⟩), .int .u8 kind, .int .i64 kind, .int .i64 (kind - 1), .pointer (some ⟨C, 0, none⟩), .pointer (some ⟨C, 0, none⟩), .pointer (some ⟨C, 0, none⟩), .int .i64 (T), .int .i64 p, .pointer (some ⟨E, 1, none⟩), .int .i64 ((th : Int)), .pointer (some ⟨C, 0, none⟩), .pointer (some ⟨C, 0, none⟩), .pointer (some ⟨C, 3, none⟩), .int .i64 (c.last), .int .i64 ((th : Int) - c.last), .pointer (some ⟨C, 0, none⟩), .pointer (some ⟨C, 0, none⟩), .pointer (some ⟨C, 0, none⟩), .int .i64 (T), .int .i64 ((th : Int) - c.last + T), .pointer (some ⟨C, 0, none⟩), .pointer (some ⟨C, 0, none⟩), .pointer (some ⟨C, 0, none⟩), .int .i64 (T), .int .i64 r, .int .i64 (p + r), .string s0, .string s0] : List Value).getD qq undef) (LB W1 29 28)
  focus (simp [putAll, dstOf, Act.put, List.getD]; rfl)
  case hm => kernel_rfl
  case hd => kernel_rfl
  case hb => kernel_rfl
  case hng => kernel_rfl
  case hsz => kernel_rfl
  case hext => exact fun l l' w h H => H.ext (by decide) h
  case h0 => exact LB.start (ext_drew (ext_refl _))
  case hstep =>
    refine ⟨?_, ?_, ?_, ?_, ?_, ?_, ?_, ?_, ?_, ?_, ?_, ?_, ?_, ?_, ?_, ?_, ?_, ?_, ?_, ?_, ?_, ?_, ?_, ?_, ?_, ?_, ?_, ?_, ?_,  trivial⟩
    · refine ⟨(fun g b h => by cases h), fun l w' hl hdp hJ hg ρ h1 h2 h3 h4 h5 => ?_⟩
      have HJ := hid hJ
      clear hJ
      have f3 : ρ (.tmp 3) = .pointer (some ⟨E, 0, none⟩) := h5 3 (undone_far (by kernel_rfl))
      clear h4 h5 hg
      unfold OpY
      go_simp
      first | exact ⟨rfl, HJ.out.put (i := 0) (by decide) (by decide) hl (ext_refl _)⟩ | exact ⟨Or.inr rfl, HJ.out.put (i := 0) (by decide) (by decide) hl (ext_refl _)⟩
    · refine ⟨(fun g b h => by cases h), fun l w' hl hdp hJ hg ρ h1 h2 h3 h4 h5 => ?_⟩
      have HJ := hid hJ
      clear hJ
      have f6 : ρ (.tmp 6) = .pointer (some ⟨E, 0, none⟩) := h4 0 6 (by kernel_rfl) (by kernel_rfl)
      have c : w'.cell? ⟨E, 0, none⟩ = some (.int .u8 kind) := (HBE.out.below HJ.out.be).cell 0 rfl
      clear h4 h5 hg
      unfold OpY
      go_simp
      first | exact ⟨rfl, HJ.out.put (i := 1) (by decide) (by decide) hl (ext_refl _)⟩ | exact ⟨Or.inr rfl, HJ.out.put (i := 1) (by decide) (by decide) hl (ext_refl _)⟩
    · refine ⟨(fun g b h => by cases h), fun l w' hl hdp hJ hg ρ h1 h2 h3 h4 h5 => ?_⟩
      have HJ := hid hJ
      clear hJ
      have f7 : ρ (.tmp 7) = .int .u8 kind := h4 1 7 (by kernel_rfl) (by kernel_rfl)
      clear h4 h5 hg
      unfold OpY
      go_simp
      first | exact ⟨rfl, HJ.out.put (i := 2) (by decide) (by decide) hl (ext_refl _)⟩ | exact ⟨Or.inr rfl, HJ.out.put (i := 2) (by decide) (by decide) hl (ext_refl _)⟩
    · refine ⟨(fun g b h => by cases h), fun l w' hl hdp hJ hg ρ h1 h2 h3 h4 h5 => ?_⟩
      have HJ := hid hJ
      clear hJ
      have f8 : ρ (.tmp 8) = .int .i64 kind := h4 2 8 (by kernel_rfl) (by kernel_rfl)
      clear h4 h5 hg
      unfold OpY
      go_simp
      first | exact ⟨rfl, HJ.out.put (i := 3) (by decide) (by decide) hl (ext_refl _)⟩ | exact ⟨Or.inr rfl, HJ.out.put (i := 3) (by decide) (by decide) hl (ext_refl _)⟩
    · refine ⟨(fun g b h => by cases h), fun l w' hl hdp hJ hg ρ h1 h2 h3 h4 h5 => ?_⟩
      have HJ := hid hJ
      clear hJ
      have f0 : ρ (.tmp 0) = .pointer (some ⟨C, 0, none⟩) := h5 0 (undone_far (by kernel_rfl))
      clear h4 h5 hg
      unfold OpY
      go_simp
      first | exact ⟨rfl, HJ.out.put (i := 4) (by decide) (by decide) hl (ext_refl _)⟩ | exact ⟨Or.inr rfl, HJ.out.put (i := 4) (by decide) (by decide) hl (ext_refl _)⟩
    · refine ⟨(fun g b h => by cases h), fun l w' hl hdp hJ hg ρ h1 h2 h3 h4 h5 => ?_⟩
      have HJ := hid hJ
      clear hJ
      have f10 : ρ (.tmp 10) = .pointer (some ⟨C, 0, none⟩) := h4 4 10 (by kernel_rfl) (by kernel_rfl)
      clear h4 h5 hg
      unfold OpY
      go_simp
      first | exact ⟨rfl, HJ.out.put (i := 5) (by decide) (by decide) hl (ext_refl _)⟩ | exact ⟨Or.inr rfl, HJ.out.put (i := 5) (by decide) (by decide) hl (ext_refl _)⟩
    · refine ⟨(fun g b h => by cases h), fun l w' hl hdp hJ hg ρ h1 h2 h3 h4 h5 => ?_⟩
      have HJ := hid hJ
      clear hJ
      have f11 : ρ (.tmp 11) = .pointer (some ⟨C, 0, none⟩) := h4 5 11 (by kernel_rfl) (by kernel_rfl)
      clear h4 h5 hg
      unfold OpY
      go_simp
      first | exact ⟨rfl, HJ.out.put (i := 6) (by decide) (by decide) hl (ext_refl _)⟩ | exact ⟨Or.inr rfl, HJ.out.put (i := 6) (by decide) (by decide) hl (ext_refl _)⟩
    · refine ⟨(fun g b h => by cases h), fun l w' hl hdp hJ hg ρ h1 h2 h3 h4 h5 => ?_⟩
      have HJ := hid hJ
      clear hJ
      have f12 : ρ (.tmp 12) = .pointer (some ⟨C, 0, none⟩) := h4 6 12 (by kernel_rfl) (by kernel_rfl)
      have c : w'.cell? ⟨C, 0, none⟩ = some (.int .i64 (T)) := (HBC.out.below HJ.out.be).cell 0 rfl
      clear h4 h5 hg
      unfold OpY
      go_simp
      first | exact ⟨rfl, HJ.out.put (i := 7) (by decide) (by decide) hl (ext_refl _)⟩ | exact ⟨Or.inr rfl, HJ.out.put (i := 7) (by decide) (by decide) hl (ext_refl _)⟩
    · refine ⟨(fun g b h => by cases h), fun l w' hl hdp hJ hg ρ h1 h2 h3 h4 h5 => ?_⟩
      have HJ := hid hJ
      clear hJ
      have f9 : ρ (.tmp 9) = .int .i64 (kind - 1) := h4 3 9 (by kernel_rfl) (by kernel_rfl)
      have f13 : ρ (.tmp 13) = .int .i64 (T) := h4 7 13 (by kernel_rfl) (by kernel_rfl)
      clear h4 h5 hg
      unfold OpY
      go_simp
      first | exact ⟨rfl, HJ.out.put (i := 8) (by decide) (by decide) hl (ext_refl _)⟩ | exact ⟨Or.inr rfl, HJ.out.put (i := 8) (by decide) (by decide) hl (ext_refl _)⟩
    · refine ⟨(fun g b h => by cases h), fun l w' hl hdp hJ hg ρ h1 h2 h3 h4 h5 => ?_⟩
      have HJ := hid hJ
      clear hJ
      have f3 : ρ (.tmp 3) = .pointer (some ⟨E, 0, none⟩) := h5 3 (undone_far (by kernel_rfl))
      clear h4 h5 hg
      unfold OpY
      go_simp
      first | exact ⟨rfl, HJ.out.put (i := 9) (by decide) (by decide) hl (ext_refl _)⟩ | exact ⟨Or.inr rfl, HJ.out.put (i := 9) (by decide) (by decide) hl (ext_refl _)⟩
    · refine ⟨(fun g b h => by cases h), fun l w' hl hdp hJ hg ρ h1 h2 h3 h4 h5 => ?_⟩
      have HJ := hid hJ
      clear hJ
      have f15 : ρ (.tmp 15) = .pointer (some ⟨E, 1, none⟩) := h4 9 15 (by kernel_rfl) (by kernel_rfl)
      have c : w'.cell? ⟨E, 1, none⟩ = some (.int .i64 ((th : Int))) := (HBE.out.below HJ.out.be).cell 1 rfl
      clear h4 h5 hg
      unfold OpY
      go_simp
      first | exact ⟨rfl, HJ.out.put (i := 10) (by decide) (by decide) hl (ext_refl _)⟩ | exact ⟨Or.inr rfl, HJ.out.put (i := 10) (by decide) (by decide) hl (ext_refl _)⟩
    · refine ⟨(fun g b h => by cases h), fun l w' hl hdp hJ hg ρ h1 h2 h3 h4 h5 => ?_⟩
      have HJ := hid hJ
      clear hJ
      have f0 : ρ (.tmp 0) = .pointer (some ⟨C, 0, none⟩) := h5 0 (undone_far (by kernel_rfl))
      clear h4 h5 hg
      unfold OpY
      go_simp
      first | exact ⟨rfl, HJ.out.put (i := 11) (by decide) (by decide) hl (ext_refl _)⟩ | exact ⟨Or.inr rfl, HJ.out.put (i := 11) (by decide) (by decide) hl (ext_refl _)⟩
    · refine ⟨(fun g b h => by cases h), fun l w' hl hdp hJ hg ρ h1 h2 h3 h4 h5 => ?_⟩
      have HJ := hid hJ
      clear hJ
      have f17 : ρ (.tmp 17) = .pointer (some ⟨C, 0, none⟩) := h4 11 17 (by kernel_rfl) (by kernel_rfl)
      clear h4 h5 hg
      unfold OpY
      go_simp
      first | exact ⟨rfl, HJ.out.put (i := 12) (by decide) (by decide) hl (ext_refl _)⟩ | exact ⟨Or.inr rfl, HJ.out.put (i := 12) (by decide) (by decide) hl (ext_refl _)⟩
    · refine ⟨(fun g b h => by cases h), fun l w' hl hdp hJ hg ρ h1 h2 h3 h4 h5 => ?_⟩
      have HJ := hid hJ
      clear hJ
      have f18 : ρ (.tmp 18) = .pointer (some ⟨C, 0, none⟩) := h4 12 18 (by kernel_rfl) (by kernel_rfl)
      clear h4 h5 hg
      unfold OpY
      go_simp
      first | exact ⟨rfl, HJ.out.put (i := 13) (by decide) (by decide) hl (ext_refl _)⟩ | exact ⟨Or.inr rfl, HJ.out.put (i := 13) (by decide) (by decide) hl (ext_refl _)⟩
    · refine ⟨(fun g b h => by cases h), fun l w' hl hdp hJ hg ρ h1 h2 h3 h4 h5 => ?_⟩
      have HJ := hid hJ
      clear hJ
      have f19 : ρ (.tmp 19) = .pointer (some ⟨C, 3, none⟩) := h4 13 19 (by kernel_rfl) (by kernel_rfl)
      have c : w'.cell? ⟨C, 3, none⟩ = some (.int .i64 (c.last)) := (HBC.out.below HJ.out.be).cell 3 rfl
      clear h4 h5 hg
      unfold OpY
      go_simp
      first | exact ⟨rfl, HJ.out.put (i := 14) (by decide) (by decide) hl (ext_refl _)⟩ | exact ⟨Or.inr rfl, HJ.out.put (i := 14) (by decide) (by decide) hl (ext_refl _)⟩
    · refine ⟨(fun g b h => by cases h), fun l w' hl hdp hJ hg ρ h1 h2 h3 h4 h5 => ?_⟩
      have HJ := hid hJ
      clear hJ
      have f16 : ρ (.tmp 16) = .int .i64 ((th : Int)) := h4 10 16 (by kernel_rfl) (by kernel_rfl)
      have f20 : ρ (.tmp 20) = .int .i64 (c.last) := h4 14 20 (by kernel_rfl) (by kernel_rfl)
      clear h4 h5 hg
      unfold OpY
      go_simp
      first | exact ⟨rfl, HJ.out.put (i := 15) (by decide) (by decide) hl (ext_refl _)⟩ | exact ⟨Or.inr rfl, HJ.out.put (i := 15) (by decide) (by decide) hl (ext_refl _)⟩
    · refine ⟨(fun g b h => by cases h), fun l w' hl hdp hJ hg ρ h1 h2 h3 h4 h5 => ?_⟩
      have HJ := hid hJ
      clear hJ
      have f0 : ρ (.tmp 0) = .pointer (some ⟨C, 0, none⟩) := h5 0 (undone_far (by kernel_rfl))
      clear h4 h5 hg
      unfold OpY
      go_simp
      first | exact ⟨rfl, HJ.out.put (i := 16) (by decide) (by decide) hl (ext_refl _)⟩ | exact ⟨Or.inr rfl, HJ.out.put (i := 16) (by decide) (by decide) hl (ext_refl _)⟩
    · refine ⟨(fun g b h => by cases h), fun l w' hl hdp hJ hg ρ h1 h2 h3 h4 h5 => ?_⟩
      have HJ := hid hJ
      clear hJ
      have f22 : ρ (.tmp 22) = .pointer (some ⟨C, 0, none⟩) := h4 16 22 (by kernel_rfl) (by kernel_rfl)
      clear h4 h5 hg
      unfold OpY
      go_simp
      first | exact ⟨rfl, HJ.out.put (i := 17) (by decide) (by decide) hl (ext_refl _)⟩ | exact ⟨Or.inr rfl, HJ.out.put (i := 17) (by decide) (by decide) hl (ext_refl _)⟩
    · refine ⟨(fun g b h => by cases h), fun l w' hl hdp hJ hg ρ h1 h2 h3 h4 h5 => ?_⟩
      have HJ := hid hJ
      clear hJ
      have f23 : ρ (.tmp 23) = .pointer (some ⟨C, 0, none⟩) := h4 17 23 (by kernel_rfl) (by kernel_rfl)
      clear h4 h5 hg
      unfold OpY
      go_simp
      first | exact ⟨rfl, HJ.out.put (i := 18) (by decide) (by decide) hl (ext_refl _)⟩ | exact ⟨Or.inr rfl, HJ.out.put (i := 18) (by decide) (by decide) hl (ext_refl _)⟩
    · refine ⟨(fun g b h => by cases h), fun l w' hl hdp hJ hg ρ h1 h2 h3 h4 h5 => ?_⟩
      have HJ := hid hJ
      clear hJ
      have f24 : ρ (.tmp 24) = .pointer (some ⟨C, 0, none⟩) := h4 18 24 (by kernel_rfl) (by kernel_rfl)
      have c : w'.cell? ⟨C, 0, none⟩ = some (.int .i64 (T)) := (HBC.out.below HJ.out.be).cell 0 rfl
      clear h4 h5 hg
      unfold OpY
      go_simp
      first | exact ⟨rfl, HJ.out.put (i := 19) (by decide) (by decide) hl (ext_refl _)⟩ | exact ⟨Or.inr rfl, HJ.out.put (i := 19) (by decide) (by decide) hl (ext_refl _)⟩
    · refine ⟨(fun g b h => by cases h), fun l w' hl hdp hJ hg ρ h1 h2 h3 h4 h5 => ?_⟩
      have HJ := hid hJ
      clear hJ
      have f21 : ρ (.tmp 21) = .int .i64 ((th : Int) - c.last) := h4 15 21 (by kernel_rfl) (by kernel_rfl)
      have f25 : ρ (.tmp 25) = .int .i64 (T) := h4 19 25 (by kernel_rfl) (by kernel_rfl)
      clear h4 h5 hg
      unfold OpY
      go_simp
      first | exact ⟨rfl, HJ.out.put (i := 20) (by decide) (by decide) hl (ext_refl _)⟩ | exact ⟨Or.inr rfl, HJ.out.put (i := 20) (by decide) (by decide) hl (ext_refl _)⟩
    · refine ⟨(fun g b h => by cases h), fun l w' hl hdp hJ hg ρ h1 h2 h3 h4 h5 => ?_⟩
      have HJ := hid hJ
      clear hJ
      have f0 : ρ (.tmp 0) = .pointer (some ⟨C, 0, none⟩) := h5 0 (undone_far (by kernel_rfl))
      clear h4 h5 hg
      unfold OpY
      go_simp
      first | exact ⟨rfl, HJ.out.put (i := 21) (by decide) (by decide) hl (ext_refl _)⟩ | exact ⟨Or.inr rfl, HJ.out.put (i := 21) (by decide) (by decide) hl (ext_refl _)⟩
    · refine ⟨(fun g b h => by cases h), fun l w' hl hdp hJ hg ρ h1 h2 h3 h4 h5 => ?_⟩
      have HJ := hid hJ
      clear hJ
      have f27 : ρ (.tmp 27) = .pointer (some ⟨C, 0, none⟩) := h4 21 27 (by kernel_rfl) (by kernel_rfl)
      clear h4 h5 hg
      unfold OpY
      go_simp
      first | exact ⟨rfl, HJ.out.put (i := 22) (by decide) (by decide) hl (ext_refl _)⟩ | exact ⟨Or.inr rfl, HJ.out.put (i := 22) (by decide) (by decide) hl (ext_refl _)⟩
    · refine ⟨(fun g b h => by cases h), fun l w' hl hdp hJ hg ρ h1 h2 h3 h4 h5 => ?_⟩
      have HJ := hid hJ
      clear hJ
      have f28 : ρ (.tmp 28) = .pointer (some ⟨C, 0, none⟩) := h4 22 28 (by kernel_rfl) (by kernel_rfl)
      clear h4 h5 hg
      unfold OpY
      go_simp
      first | exact ⟨rfl, HJ.out.put (i := 23) (by decide) (by decide) hl (ext_refl _)⟩ | exact ⟨Or.inr rfl, HJ.out.put (i := 23) (by decide) (by decide) hl (ext_refl _)⟩
    · refine ⟨(fun g b h => by cases h), fun l w' hl hdp hJ hg ρ h1 h2 h3 h4 h5 => ?_⟩
      have HJ := hid hJ
      clear hJ
      have f29 : ρ (.tmp 29) = .pointer (some ⟨C, 0, none⟩) := h4 23 29 (by kernel_rfl) (by kernel_rfl)
      have c : w'.cell? ⟨C, 0, none⟩ = some (.int .i64 (T)) := (HBC.out.below HJ.out.be).cell 0 rfl
      clear h4 h5 hg
      unfold OpY
      go_simp
      first | exact ⟨rfl, HJ.out.put (i := 24) (by decide) (by decide) hl (ext_refl _)⟩ | exact ⟨Or.inr rfl, HJ.out.put (i := 24) (by decide) (by decide) hl (ext_refl _)⟩
    · refine ⟨(fun g b h => by cases h), fun l w' hl hdp hJ hg ρ h1 h2 h3 h4 h5 => ?_⟩
      have HJ := hid hJ
      clear hJ
      have f26 : ρ (.tmp 26) = .int .i64 ((th : Int) - c.last + T) := h4 20 26 (by kernel_rfl) (by kernel_rfl)
      have f30 : ρ (.tmp 30) = .int .i64 (T) := h4 24 30 (by kernel_rfl) (by kernel_rfl)
      clear h4 h5 hg
      unfold OpY
      go_simp
      first | exact ⟨rfl, HJ.out.put (i := 25) (by decide) (by decide) hl (ext_refl _)⟩ | exact ⟨Or.inr rfl, HJ.out.put (i := 25) (by decide) (by decide) hl (ext_refl _)⟩
    · refine ⟨(fun g b h => by cases h), fun l w' hl hdp hJ hg ρ h1 h2 h3 h4 h5 => ?_⟩
      have HJ := hid hJ
      clear hJ
      have f14 : ρ (.tmp 14) = .int .i64 p := h4 8 14 (by kernel_rfl) (by kernel_rfl)
      have f31 : ρ (.tmp 31) = .int .i64 r := h4 25 31 (by kernel_rfl) (by kernel_rfl)
      clear h4 h5 hg
      unfold OpY
      go_simp
      first | exact ⟨rfl, HJ.out.put (i := 26) (by decide) (by decide) hl (ext_refl _)⟩ | exact ⟨Or.inr rfl, HJ.out.put (i := 26) (by decide) (by decide) hl (ext_refl _)⟩
    · refine ⟨(fun g b h => by cases h), fun l w' hl hdp hJ hg ρ h1 h2 h3 h4 h5 => ?_⟩
      have HJ := hid hJ
      clear hJ
      have f32 : ρ (.tmp 32) = .int .i64 (p + r) := h4 26 32 (by kernel_rfl) (by kernel_rfl)
      clear h4 h5 hg
      unfold OpY
      go_simp
      unfold OpR
      refine (HN0.out w').mono ?_
      rintro e' w'' ⟨rfl, hb⟩
      first | exact ⟨_, rfl, rfl, HJ.out.put (i := 27) (by decide) (by decide) hl hb⟩ | exact ⟨_, rfl, Or.inr rfl, HJ.out.put (i := 27) (by decide) (by decide) hl hb⟩
    · refine ⟨(fun g b h => by cases h), fun l w' hl hdp hJ hg ρ h1 h2 h3 h4 h5 => ?_⟩
      have HJ := hid hJ
      clear hJ
      have f33 : ρ (.tmp 33) = .string s0 := h4 27 33 (by kernel_rfl) (by kernel_rfl)
      have hall : ∀ q, q < 29 → q ≠ 28 → l q = true := all_last (by kernel_rfl) hdp
      have HALL := hid hall
      clear hall h4 h5 hg
      unfold OpY
      go_simp
      first | exact ⟨rfl, HJ.out.last HALL.out⟩ | exact ⟨Or.inr rfl, HJ.out.last HALL.out⟩
  case hdone =>
    intro w2 hJ
    have HB2 := hid (ext_trans HB1.out hJ.be)
    have HBE2 := hid (HBE.out.below hJ.be)
    have HBC2 := hid (HBC.out.below hJ.be)
    have y0 := HBE2.out.cell 0 (v := .int .u8 kind) rfl
    clear hJ HBE HBC HB1 kk0 kk1 kk2 aa1 aa2 hr1 hr2 hs1 t0' t1' t2' t3' t4' HN0
    have HBE := HBE2
    have HBC := HBC2
    clear HBE2 HBC2
    rcases HK13.out with hk | hk | hk | hk | hk | hk | hk | hk | hk | hk | hk | hk | hk
    · subst hk
      have HN1 := hid (fun W => rnum_i (tx) W (by have := HF.out; omega))
      obtain ⟨s1, hs1⟩ : ∃ q, q = bstr (putN (tx).toNat) := ⟨_, rfl⟩
      rw [← hs1] at HN1
      have z1 : s1.size ≤ 10 := by rw [hs1]; exact putN10 _
      have HS1 := hid hs1
      clear hs1
      have HN2 := hid (fun W => rnum_i (v - c.clock) W (by have h1 := HF.out; have h2 := HK2.out.1 rfl; have h3 := HCC.out.clock; unfold maxClockN at h3; omega))
      obtain ⟨s2, hs2⟩ : ∃ q, q = bstr (putN (v - c.clock).toNat) := ⟨_, rfl⟩
      rw [← hs2] at HN2
      have z2 : s2.size ≤ 10 := by rw [hs2]; exact putN10 _
      have HS2 := hid hs2
      clear hs2
      obtain ⟨n1, n2, n3⟩ := add_no (a := s0) (b := s1) (by omega) (by omega)
      have n4 : ¬ (9223372036854775807 < s0.size + s1.size + s2.size) := by omega
      have j1 : IntKind.i64.wrap (v - c.clock) = v - c.clock := IntWalk.i64_in _ (by have := HF.out; have := HCC.out.clock; unfold maxClockN at this; omega)
      clear n3
      go_wp2_with fail
      apply wp_region_knownJ9 (fun qq => ([.string s0, .pointer (some ⟨E, 2, none⟩), .int .i64 tx, .string s1, .string (s0 ++ s1), .pointer (some ⟨E, 4, none⟩), .int .i64 v, .pointer (some ⟨C, 0, none⟩), .pointer (some ⟨C, 0, none⟩), .pointer (some ⟨C, 4, none⟩), .int .i64 (c.clock), .int .i64 (v - c.clock), .string s2, .string (s0 ++ s1 ++ s2), .string (s0 ++ s1 ++ s2)] : List Value).getD qq undef) (LB w2 15 14)
      focus (simp [putAll, dstOf, Act.put, List.getD]; rfl)
      case hm => kernel_rfl
      case hd => kernel_rfl
      case hb => kernel_rfl
      case hng => kernel_rfl
      case hsz => kernel_rfl
      case hext => exact fun l l' w h H => H.ext (by decide) h
      case h0 => exact LB.start (ext_drew (ext_refl _))
      case hstep =>
        refine ⟨?_, ?_, ?_, ?_, ?_, ?_, ?_, ?_, ?_, ?_, ?_, ?_, ?_, ?_, ?_,  trivial⟩
        · refine ⟨(fun g b h => by cases h), fun l w' hl hdp hJ hg ρ h1 h2 h3 h4 h5 => ?_⟩
          have HJ := hid hJ
          clear hJ
          have f5 : ρ (.tmp 5) = .string s0 := h5 5 (undone_one 14 (by kernel_rfl) (HJ.out.not (i := 0) (by decide) (by decide) hl))
          clear h4 h5 hg
          unfold OpY
          go_simp
          first | exact ⟨rfl, HJ.out.put (i := 0) (by decide) (by decide) hl (ext_refl _)⟩ | exact ⟨Or.inr rfl, HJ.out.put (i := 0) (by decide) (by decide) hl (ext_refl _)⟩
        · refine ⟨(fun g b h => by cases h), fun l w' hl hdp hJ hg ρ h1 h2 h3 h4 h5 => ?_⟩
          have HJ := hid hJ
          clear hJ
          have f3 : ρ (.tmp 3) = .pointer (some ⟨E, 0, none⟩) := h5 3 (undone_far (by kernel_rfl))
          clear h4 h5 hg
          unfold OpY
          go_simp
          first | exact ⟨rfl, HJ.out.put (i := 1) (by decide) (by decide) hl (ext_refl _)⟩ | exact ⟨Or.inr rfl, HJ.out.put (i := 1) (by decide) (by decide) hl (ext_refl _)⟩
        · refine ⟨(fun g b h => by cases h), fun l w' hl hdp hJ hg ρ h1 h2 h3 h4 h5 => ?_⟩
          have HJ := hid hJ
          clear hJ
          have f39 : ρ (.tmp 39) = .pointer (some ⟨E, 2, none⟩) := h4 1 39 (by kernel_rfl) (by kernel_rfl)
          have c : w'.cell? ⟨E, 2, none⟩ = some (.int .i64 tx) := (HBE.out.below HJ.out.be).cell 2 rfl
          clear h4 h5 hg
          unfold OpY
          go_simp
          first | exact ⟨rfl, HJ.out.put (i := 2) (by decide) (by decide) hl (ext_refl _)⟩ | exact ⟨Or.inr rfl, HJ.out.put (i := 2) (by decide) (by decide) hl (ext_refl _)⟩
        · refine ⟨(fun g b h => by cases h), fun l w' hl hdp hJ hg ρ h1 h2 h3 h4 h5 => ?_⟩
          have HJ := hid hJ
          clear hJ
          have f40 : ρ (.tmp 40) = .int .i64 tx := h4 2 40 (by kernel_rfl) (by kernel_rfl)
          clear h4 h5 hg
          unfold OpY
          go_simp
          unfold OpR
          refine (HN1.out w').mono ?_
          rintro e' w'' ⟨rfl, hb⟩
          first | exact ⟨_, rfl, rfl, HJ.out.put (i := 3) (by decide) (by decide) hl hb⟩ | exact ⟨_, rfl, Or.inr rfl, HJ.out.put (i := 3) (by decide) (by decide) hl hb⟩
        · refine ⟨(fun g b h => by cases h), fun l w' hl hdp hJ hg ρ h1 h2 h3 h4 h5 => ?_⟩
          have HJ := hid hJ
          clear hJ
          have f38 : ρ (.tmp 38) = .string s0 := h4 0 38 (by kernel_rfl) (by kernel_rfl)
          have f41 : ρ (.tmp 41) = .string s1 := h4 3 41 (by kernel_rfl) (by kernel_rfl)
          clear h4 h5 hg
          unfold OpY
          go_simp
          first | exact ⟨rfl, HJ.out.put (i := 4) (by decide) (by decide) hl (ext_refl _)⟩ | exact ⟨Or.inr rfl, HJ.out.put (i := 4) (by decide) (by decide) hl (ext_refl _)⟩
        · refine ⟨(fun g b h => by cases h), fun l w' hl hdp hJ hg ρ h1 h2 h3 h4 h5 => ?_⟩
          have HJ := hid hJ
          clear hJ
          have f3 : ρ (.tmp 3) = .pointer (some ⟨E, 0, none⟩) := h5 3 (undone_far (by kernel_rfl))
          clear h4 h5 hg
          unfold OpY
          go_simp
          first | exact ⟨rfl, HJ.out.put (i := 5) (by decide) (by decide) hl (ext_refl _)⟩ | exact ⟨Or.inr rfl, HJ.out.put (i := 5) (by decide) (by decide) hl (ext_refl _)⟩
        · refine ⟨(fun g b h => by cases h), fun l w' hl hdp hJ hg ρ h1 h2 h3 h4 h5 => ?_⟩
          have HJ := hid hJ
          clear hJ
          have f43 : ρ (.tmp 43) = .pointer (some ⟨E, 4, none⟩) := h4 5 43 (by kernel_rfl) (by kernel_rfl)
          have c : w'.cell? ⟨E, 4, none⟩ = some (.int .i64 v) := (HBE.out.below HJ.out.be).cell 4 rfl
          clear h4 h5 hg
          unfold OpY
          go_simp
          first | exact ⟨rfl, HJ.out.put (i := 6) (by decide) (by decide) hl (ext_refl _)⟩ | exact ⟨Or.inr rfl, HJ.out.put (i := 6) (by decide) (by decide) hl (ext_refl _)⟩
        · refine ⟨(fun g b h => by cases h), fun l w' hl hdp hJ hg ρ h1 h2 h3 h4 h5 => ?_⟩
          have HJ := hid hJ
          clear hJ
          have f0 : ρ (.tmp 0) = .pointer (some ⟨C, 0, none⟩) := h5 0 (undone_far (by kernel_rfl))
          clear h4 h5 hg
          unfold OpY
          go_simp
          first | exact ⟨rfl, HJ.out.put (i := 7) (by decide) (by decide) hl (ext_refl _)⟩ | exact ⟨Or.inr rfl, HJ.out.put (i := 7) (by decide) (by decide) hl (ext_refl _)⟩
        · refine ⟨(fun g b h => by cases h), fun l w' hl hdp hJ hg ρ h1 h2 h3 h4 h5 => ?_⟩
          have HJ := hid hJ
          clear hJ
          have f45 : ρ (.tmp 45) = .pointer (some ⟨C, 0, none⟩) := h4 7 45 (by kernel_rfl) (by kernel_rfl)
          clear h4 h5 hg
          unfold OpY
          go_simp
          first | exact ⟨rfl, HJ.out.put (i := 8) (by decide) (by decide) hl (ext_refl _)⟩ | exact ⟨Or.inr rfl, HJ.out.put (i := 8) (by decide) (by decide) hl (ext_refl _)⟩
        · refine ⟨(fun g b h => by cases h), fun l w' hl hdp hJ hg ρ h1 h2 h3 h4 h5 => ?_⟩
          have HJ := hid hJ
          clear hJ
          have f46 : ρ (.tmp 46) = .pointer (some ⟨C, 0, none⟩) := h4 8 46 (by kernel_rfl) (by kernel_rfl)
          clear h4 h5 hg
          unfold OpY
          go_simp
          first | exact ⟨rfl, HJ.out.put (i := 9) (by decide) (by decide) hl (ext_refl _)⟩ | exact ⟨Or.inr rfl, HJ.out.put (i := 9) (by decide) (by decide) hl (ext_refl _)⟩
        · refine ⟨(fun g b h => by cases h), fun l w' hl hdp hJ hg ρ h1 h2 h3 h4 h5 => ?_⟩
          have HJ := hid hJ
          clear hJ
          have f47 : ρ (.tmp 47) = .pointer (some ⟨C, 4, none⟩) := h4 9 47 (by kernel_rfl) (by kernel_rfl)
          have c : w'.cell? ⟨C, 4, none⟩ = some (.int .i64 (c.clock)) := (HBC.out.below HJ.out.be).cell 4 rfl
          clear h4 h5 hg
          unfold OpY
          go_simp
          first | exact ⟨rfl, HJ.out.put (i := 10) (by decide) (by decide) hl (ext_refl _)⟩ | exact ⟨Or.inr rfl, HJ.out.put (i := 10) (by decide) (by decide) hl (ext_refl _)⟩
        · refine ⟨(fun g b h => by cases h), fun l w' hl hdp hJ hg ρ h1 h2 h3 h4 h5 => ?_⟩
          have HJ := hid hJ
          clear hJ
          have f44 : ρ (.tmp 44) = .int .i64 v := h4 6 44 (by kernel_rfl) (by kernel_rfl)
          have f48 : ρ (.tmp 48) = .int .i64 (c.clock) := h4 10 48 (by kernel_rfl) (by kernel_rfl)
          clear h4 h5 hg
          unfold OpY
          go_simp
          first | exact ⟨rfl, HJ.out.put (i := 11) (by decide) (by decide) hl (ext_refl _)⟩ | exact ⟨Or.inr rfl, HJ.out.put (i := 11) (by decide) (by decide) hl (ext_refl _)⟩
        · refine ⟨(fun g b h => by cases h), fun l w' hl hdp hJ hg ρ h1 h2 h3 h4 h5 => ?_⟩
          have HJ := hid hJ
          clear hJ
          have f49 : ρ (.tmp 49) = .int .i64 (v - c.clock) := h4 11 49 (by kernel_rfl) (by kernel_rfl)
          clear h4 h5 hg
          unfold OpY
          go_simp
          unfold OpR
          refine (HN2.out w').mono ?_
          rintro e' w'' ⟨rfl, hb⟩
          first | exact ⟨_, rfl, rfl, HJ.out.put (i := 12) (by decide) (by decide) hl hb⟩ | exact ⟨_, rfl, Or.inr rfl, HJ.out.put (i := 12) (by decide) (by decide) hl hb⟩
        · refine ⟨(fun g b h => by cases h), fun l w' hl hdp hJ hg ρ h1 h2 h3 h4 h5 => ?_⟩
          have HJ := hid hJ
          clear hJ
          have f42 : ρ (.tmp 42) = .string (s0 ++ s1) := h4 4 42 (by kernel_rfl) (by kernel_rfl)
          have f50 : ρ (.tmp 50) = .string s2 := h4 12 50 (by kernel_rfl) (by kernel_rfl)
          clear h4 h5 hg
          unfold OpY
          go_simp
          first | exact ⟨rfl, HJ.out.put (i := 13) (by decide) (by decide) hl (ext_refl _)⟩ | exact ⟨Or.inr rfl, HJ.out.put (i := 13) (by decide) (by decide) hl (ext_refl _)⟩
        · refine ⟨(fun g b h => by cases h), fun l w' hl hdp hJ hg ρ h1 h2 h3 h4 h5 => ?_⟩
          have HJ := hid hJ
          clear hJ
          have f51 : ρ (.tmp 51) = .string (s0 ++ s1 ++ s2) := h4 13 51 (by kernel_rfl) (by kernel_rfl)
          have hall : ∀ q, q < 15 → q ≠ 14 → l q = true := all_last (by kernel_rfl) hdp
          have HALL := hid hall
          clear hall h4 h5 hg
          unfold OpY
          go_simp
          first | exact ⟨rfl, HJ.out.last HALL.out⟩ | exact ⟨Or.inr rfl, HJ.out.last HALL.out⟩
      case hdone =>
        intro w3 hJ
        have HB3 := hid (ext_trans HB2.out hJ.be)
        clear hJ
        go_wp2_with fail
        rw [HQ.out]
        refine ⟨?_, HB3.out⟩
        have hn : numsC c ⟨1, (th : Int), tx, at_, v, x, why⟩ = [tx.toNat, (v - c.clock).toNat] := rfl
        have hby : bytesC T c ⟨1, (th : Int), tx, at_, v, x, why⟩ = putN (p + r).toNat ++ putN (tx.toNat) ++ putN ((v - c.clock).toNat) := by
          unfold bytesC
          rw [HFI.out, hn]
          simp
        rw [hby, bstr_app, bstr_app, ← HS0.out, ← HS1.out, ← HS2.out]
        rfl
    · subst hk
      have HN1 := hid (fun W => rnum_i (at_) W (by have := HF.out; omega))
      obtain ⟨s1, hs1⟩ : ∃ q, q = bstr (putN (at_).toNat) := ⟨_, rfl⟩
      rw [← hs1] at HN1
      have z1 : s1.size ≤ 10 := by rw [hs1]; exact putN10 _
      have HS1 := hid hs1
      clear hs1
      have HN2 := hid (fun W => rnum_i (c.begun (th : Int) - v) W (by have h1 := HF.out; have h2 := HK2.out.2.1 rfl; have h3 := HCC.out.begun (th : Int); unfold maxClockN at h3; omega))
      obtain ⟨s2, hs2⟩ : ∃ q, q = bstr (putN (c.begun (th : Int) - v).toNat) := ⟨_, rfl⟩
      rw [← hs2] at HN2
      have z2 : s2.size ≤ 10 := by rw [hs2]; exact putN10 _
      have HS2 := hid hs2
      clear hs2
      obtain ⟨n1, n2, n3⟩ := add_no (a := s0) (b := s1) (by omega) (by omega)
      have n4 : ¬ (9223372036854775807 < s0.size + s1.size + s2.size) := by omega
      have j1 : IntKind.i64.wrap (c.begun (th : Int) - v) = c.begun (th : Int) - v := IntWalk.i64_in _ (by have := HF.out; have := HCC.out.begun (th : Int); unfold maxClockN at this; omega)
      clear n3
      go_wp2_with fail
      apply wp_region_knownJ9 (fun qq => ([.string s0, .pointer (some ⟨E, 3, none⟩), .int .i64 at_, .string s1, .string (s0 ++ s1), .pointer (some ⟨C, 0, none⟩), .pointer (some ⟨E, 1, none⟩), .int .i64 ((th : Int)), .pointer (some ⟨C, 0, none⟩), .pointer (some ⟨C, 5, none⟩), .pointer (some ⟨C, 5 + th, none⟩), .int .i64 (c.begun (th : Int)), .pointer (some ⟨E, 4, none⟩), .int .i64 v, .int .i64 (c.begun (th : Int) - v), .string s2, .string (s0 ++ s1 ++ s2), .string (s0 ++ s1 ++ s2)] : List Value).getD qq undef) (LB w2 18 17)
      focus (simp [putAll, dstOf, Act.put, List.getD]; rfl)
      case hm => kernel_rfl
      case hd => kernel_rfl
      case hb => kernel_rfl
      case hng => kernel_rfl
      case hsz => kernel_rfl
      case hext => exact fun l l' w h H => H.ext (by decide) h
      case h0 => exact LB.start (ext_drew (ext_refl _))
      case hstep =>
        refine ⟨?_, ?_, ?_, ?_, ?_, ?_, ?_, ?_, ?_, ?_, ?_, ?_, ?_, ?_, ?_, ?_, ?_, ?_,  trivial⟩
        · refine ⟨(fun g b h => by cases h), fun l w' hl hdp hJ hg ρ h1 h2 h3 h4 h5 => ?_⟩
          have HJ := hid hJ
          clear hJ
          have f5 : ρ (.tmp 5) = .string s0 := h5 5 (undone_one 17 (by kernel_rfl) (HJ.out.not (i := 0) (by decide) (by decide) hl))
          clear h4 h5 hg
          unfold OpY
          go_simp
          first | exact ⟨rfl, HJ.out.put (i := 0) (by decide) (by decide) hl (ext_refl _)⟩ | exact ⟨Or.inr rfl, HJ.out.put (i := 0) (by decide) (by decide) hl (ext_refl _)⟩
        · refine ⟨(fun g b h => by cases h), fun l w' hl hdp hJ hg ρ h1 h2 h3 h4 h5 => ?_⟩
          have HJ := hid hJ
          clear hJ
          have f3 : ρ (.tmp 3) = .pointer (some ⟨E, 0, none⟩) := h5 3 (undone_far (by kernel_rfl))
          clear h4 h5 hg
          unfold OpY
          go_simp
          first | exact ⟨rfl, HJ.out.put (i := 1) (by decide) (by decide) hl (ext_refl _)⟩ | exact ⟨Or.inr rfl, HJ.out.put (i := 1) (by decide) (by decide) hl (ext_refl _)⟩
        · refine ⟨(fun g b h => by cases h), fun l w' hl hdp hJ hg ρ h1 h2 h3 h4 h5 => ?_⟩
          have HJ := hid hJ
          clear hJ
          have f55 : ρ (.tmp 55) = .pointer (some ⟨E, 3, none⟩) := h4 1 55 (by kernel_rfl) (by kernel_rfl)
          have c : w'.cell? ⟨E, 3, none⟩ = some (.int .i64 at_) := (HBE.out.below HJ.out.be).cell 3 rfl
          clear h4 h5 hg
          unfold OpY
          go_simp
          first | exact ⟨rfl, HJ.out.put (i := 2) (by decide) (by decide) hl (ext_refl _)⟩ | exact ⟨Or.inr rfl, HJ.out.put (i := 2) (by decide) (by decide) hl (ext_refl _)⟩
        · refine ⟨(fun g b h => by cases h), fun l w' hl hdp hJ hg ρ h1 h2 h3 h4 h5 => ?_⟩
          have HJ := hid hJ
          clear hJ
          have f56 : ρ (.tmp 56) = .int .i64 at_ := h4 2 56 (by kernel_rfl) (by kernel_rfl)
          clear h4 h5 hg
          unfold OpY
          go_simp
          unfold OpR
          refine (HN1.out w').mono ?_
          rintro e' w'' ⟨rfl, hb⟩
          first | exact ⟨_, rfl, rfl, HJ.out.put (i := 3) (by decide) (by decide) hl hb⟩ | exact ⟨_, rfl, Or.inr rfl, HJ.out.put (i := 3) (by decide) (by decide) hl hb⟩
        · refine ⟨(fun g b h => by cases h), fun l w' hl hdp hJ hg ρ h1 h2 h3 h4 h5 => ?_⟩
          have HJ := hid hJ
          clear hJ
          have f54 : ρ (.tmp 54) = .string s0 := h4 0 54 (by kernel_rfl) (by kernel_rfl)
          have f57 : ρ (.tmp 57) = .string s1 := h4 3 57 (by kernel_rfl) (by kernel_rfl)
          clear h4 h5 hg
          unfold OpY
          go_simp
          first | exact ⟨rfl, HJ.out.put (i := 4) (by decide) (by decide) hl (ext_refl _)⟩ | exact ⟨Or.inr rfl, HJ.out.put (i := 4) (by decide) (by decide) hl (ext_refl _)⟩
        · refine ⟨(fun g b h => by cases h), fun l w' hl hdp hJ hg ρ h1 h2 h3 h4 h5 => ?_⟩
          have HJ := hid hJ
          clear hJ
          have f0 : ρ (.tmp 0) = .pointer (some ⟨C, 0, none⟩) := h5 0 (undone_far (by kernel_rfl))
          clear h4 h5 hg
          unfold OpY
          go_simp
          first | exact ⟨rfl, HJ.out.put (i := 5) (by decide) (by decide) hl (ext_refl _)⟩ | exact ⟨Or.inr rfl, HJ.out.put (i := 5) (by decide) (by decide) hl (ext_refl _)⟩
        · refine ⟨(fun g b h => by cases h), fun l w' hl hdp hJ hg ρ h1 h2 h3 h4 h5 => ?_⟩
          have HJ := hid hJ
          clear hJ
          have f3 : ρ (.tmp 3) = .pointer (some ⟨E, 0, none⟩) := h5 3 (undone_far (by kernel_rfl))
          clear h4 h5 hg
          unfold OpY
          go_simp
          first | exact ⟨rfl, HJ.out.put (i := 6) (by decide) (by decide) hl (ext_refl _)⟩ | exact ⟨Or.inr rfl, HJ.out.put (i := 6) (by decide) (by decide) hl (ext_refl _)⟩
        · refine ⟨(fun g b h => by cases h), fun l w' hl hdp hJ hg ρ h1 h2 h3 h4 h5 => ?_⟩
          have HJ := hid hJ
          clear hJ
          have f60 : ρ (.tmp 60) = .pointer (some ⟨E, 1, none⟩) := h4 6 60 (by kernel_rfl) (by kernel_rfl)
          have c : w'.cell? ⟨E, 1, none⟩ = some (.int .i64 ((th : Int))) := (HBE.out.below HJ.out.be).cell 1 rfl
          clear h4 h5 hg
          unfold OpY
          go_simp
          first | exact ⟨rfl, HJ.out.put (i := 7) (by decide) (by decide) hl (ext_refl _)⟩ | exact ⟨Or.inr rfl, HJ.out.put (i := 7) (by decide) (by decide) hl (ext_refl _)⟩
        · refine ⟨(fun g b h => by cases h), fun l w' hl hdp hJ hg ρ h1 h2 h3 h4 h5 => ?_⟩
          have HJ := hid hJ
          clear hJ
          have f59 : ρ (.tmp 59) = .pointer (some ⟨C, 0, none⟩) := h4 5 59 (by kernel_rfl) (by kernel_rfl)
          clear h4 h5 hg
          unfold OpY
          go_simp
          first | exact ⟨rfl, HJ.out.put (i := 8) (by decide) (by decide) hl (ext_refl _)⟩ | exact ⟨Or.inr rfl, HJ.out.put (i := 8) (by decide) (by decide) hl (ext_refl _)⟩
        · refine ⟨(fun g b h => by cases h), fun l w' hl hdp hJ hg ρ h1 h2 h3 h4 h5 => ?_⟩
          have HJ := hid hJ
          clear hJ
          have f62 : ρ (.tmp 62) = .pointer (some ⟨C, 0, none⟩) := h4 8 62 (by kernel_rfl) (by kernel_rfl)
          clear h4 h5 hg
          unfold OpY
          go_simp
          first | exact ⟨rfl, HJ.out.put (i := 9) (by decide) (by decide) hl (ext_refl _)⟩ | exact ⟨Or.inr rfl, HJ.out.put (i := 9) (by decide) (by decide) hl (ext_refl _)⟩
        · refine ⟨(fun g b h => by cases h), fun l w' hl hdp hJ hg ρ h1 h2 h3 h4 h5 => ?_⟩
          have HJ := hid hJ
          clear hJ
          have f63 : ρ (.tmp 63) = .pointer (some ⟨C, 5, none⟩) := h4 9 63 (by kernel_rfl) (by kernel_rfl)
          have f61 : ρ (.tmp 61) = .int .i64 ((th : Int)) := h4 7 61 (by kernel_rfl) (by kernel_rfl)
          clear h4 h5 hg
          unfold OpY
          go_simp
          first | exact ⟨rfl, HJ.out.put (i := 10) (by decide) (by decide) hl (ext_refl _)⟩ | exact ⟨Or.inr rfl, HJ.out.put (i := 10) (by decide) (by decide) hl (ext_refl _)⟩
        · refine ⟨(fun g b h => by cases h), fun l w' hl hdp hJ hg ρ h1 h2 h3 h4 h5 => ?_⟩
          have HJ := hid hJ
          clear hJ
          have f64 : ρ (.tmp 64) = .pointer (some ⟨C, 5 + th, none⟩) := h4 10 64 (by kernel_rfl) (by kernel_rfl)
          have c := (HBC.out.below HJ.out.be).cell (5 + th) (cdr_begun T V S c HTH.out)
          clear h4 h5 hg
          unfold OpY
          go_simp
          first | exact ⟨rfl, HJ.out.put (i := 11) (by decide) (by decide) hl (ext_refl _)⟩ | exact ⟨Or.inr rfl, HJ.out.put (i := 11) (by decide) (by decide) hl (ext_refl _)⟩
        · refine ⟨(fun g b h => by cases h), fun l w' hl hdp hJ hg ρ h1 h2 h3 h4 h5 => ?_⟩
          have HJ := hid hJ
          clear hJ
          have f3 : ρ (.tmp 3) = .pointer (some ⟨E, 0, none⟩) := h5 3 (undone_far (by kernel_rfl))
          clear h4 h5 hg
          unfold OpY
          go_simp
          first | exact ⟨rfl, HJ.out.put (i := 12) (by decide) (by decide) hl (ext_refl _)⟩ | exact ⟨Or.inr rfl, HJ.out.put (i := 12) (by decide) (by decide) hl (ext_refl _)⟩
        · refine ⟨(fun g b h => by cases h), fun l w' hl hdp hJ hg ρ h1 h2 h3 h4 h5 => ?_⟩
          have HJ := hid hJ
          clear hJ
          have f66 : ρ (.tmp 66) = .pointer (some ⟨E, 4, none⟩) := h4 12 66 (by kernel_rfl) (by kernel_rfl)
          have c : w'.cell? ⟨E, 4, none⟩ = some (.int .i64 v) := (HBE.out.below HJ.out.be).cell 4 rfl
          clear h4 h5 hg
          unfold OpY
          go_simp
          first | exact ⟨rfl, HJ.out.put (i := 13) (by decide) (by decide) hl (ext_refl _)⟩ | exact ⟨Or.inr rfl, HJ.out.put (i := 13) (by decide) (by decide) hl (ext_refl _)⟩
        · refine ⟨(fun g b h => by cases h), fun l w' hl hdp hJ hg ρ h1 h2 h3 h4 h5 => ?_⟩
          have HJ := hid hJ
          clear hJ
          have f65 : ρ (.tmp 65) = .int .i64 (c.begun (th : Int)) := h4 11 65 (by kernel_rfl) (by kernel_rfl)
          have f67 : ρ (.tmp 67) = .int .i64 v := h4 13 67 (by kernel_rfl) (by kernel_rfl)
          clear h4 h5 hg
          unfold OpY
          go_simp
          first | exact ⟨rfl, HJ.out.put (i := 14) (by decide) (by decide) hl (ext_refl _)⟩ | exact ⟨Or.inr rfl, HJ.out.put (i := 14) (by decide) (by decide) hl (ext_refl _)⟩
        · refine ⟨(fun g b h => by cases h), fun l w' hl hdp hJ hg ρ h1 h2 h3 h4 h5 => ?_⟩
          have HJ := hid hJ
          clear hJ
          have f68 : ρ (.tmp 68) = .int .i64 (c.begun (th : Int) - v) := h4 14 68 (by kernel_rfl) (by kernel_rfl)
          clear h4 h5 hg
          unfold OpY
          go_simp
          unfold OpR
          refine (HN2.out w').mono ?_
          rintro e' w'' ⟨rfl, hb⟩
          first | exact ⟨_, rfl, rfl, HJ.out.put (i := 15) (by decide) (by decide) hl hb⟩ | exact ⟨_, rfl, Or.inr rfl, HJ.out.put (i := 15) (by decide) (by decide) hl hb⟩
        · refine ⟨(fun g b h => by cases h), fun l w' hl hdp hJ hg ρ h1 h2 h3 h4 h5 => ?_⟩
          have HJ := hid hJ
          clear hJ
          have f58 : ρ (.tmp 58) = .string (s0 ++ s1) := h4 4 58 (by kernel_rfl) (by kernel_rfl)
          have f69 : ρ (.tmp 69) = .string s2 := h4 15 69 (by kernel_rfl) (by kernel_rfl)
          clear h4 h5 hg
          unfold OpY
          go_simp
          first | exact ⟨rfl, HJ.out.put (i := 16) (by decide) (by decide) hl (ext_refl _)⟩ | exact ⟨Or.inr rfl, HJ.out.put (i := 16) (by decide) (by decide) hl (ext_refl _)⟩
        · refine ⟨(fun g b h => by cases h), fun l w' hl hdp hJ hg ρ h1 h2 h3 h4 h5 => ?_⟩
          have HJ := hid hJ
          clear hJ
          have f70 : ρ (.tmp 70) = .string (s0 ++ s1 ++ s2) := h4 16 70 (by kernel_rfl) (by kernel_rfl)
          have hall : ∀ q, q < 18 → q ≠ 17 → l q = true := all_last (by kernel_rfl) hdp
          have HALL := hid hall
          clear hall h4 h5 hg
          unfold OpY
          go_simp
          first | exact ⟨rfl, HJ.out.last HALL.out⟩ | exact ⟨Or.inr rfl, HJ.out.last HALL.out⟩
      case hdone =>
        intro w3 hJ
        have HB3 := hid (ext_trans HB2.out hJ.be)
        clear hJ
        go_wp2_with fail
        rw [HQ.out]
        refine ⟨?_, HB3.out⟩
        have hn : numsC c ⟨2, (th : Int), tx, at_, v, x, why⟩ = [at_.toNat, (c.begun (th : Int) - v).toNat] := rfl
        have hby : bytesC T c ⟨2, (th : Int), tx, at_, v, x, why⟩ = putN (p + r).toNat ++ putN (at_.toNat) ++ putN ((c.begun (th : Int) - v).toNat) := by
          unfold bytesC
          rw [HFI.out, hn]
          simp
        rw [hby, bstr_app, bstr_app, ← HS0.out, ← HS1.out, ← HS2.out]
        rfl
    · subst hk
      have HN1 := hid (fun W => rnum_i (at_) W (by have := HF.out; omega))
      obtain ⟨s1, hs1⟩ : ∃ q, q = bstr (putN (at_).toNat) := ⟨_, rfl⟩
      rw [← hs1] at HN1
      have z1 : s1.size ≤ 10 := by rw [hs1]; exact putN10 _
      have HS1 := hid hs1
      clear hs1
      obtain ⟨q, rfl⟩ := Int.eq_ofNat_of_zero_le HF.out.2.1.1
      have HQ32 : Hid (q < 32) := hid (by have := HF.out; omega)
      have jq0 : (0 : Int) ≤ (q : Int) := by omega
      have jq1 : (q : Int) < 32 := by have := HF.out; omega
      obtain ⟨d, hd⟩ : ∃ d, d = w64 (x - c.x (q : Int)) := ⟨_, rfl⟩
      have j1 := wrap_w64 (x - c.x (q : Int))
      rw [← hd] at j1
      have HZG := hid (fun W => rzig_any d W (by rw [hd]; exact w64_ok _))
      have HN2 := hid (fun W => rput_x (zigZ d) W (zig_lt d (by rw [hd]; exact w64_ok _)))
      obtain ⟨s2, hs2⟩ : ∃ q, q = bstr (putN (zigZ d)) := ⟨_, rfl⟩
      rw [← hs2] at HN2
      have z2 : s2.size ≤ 10 := by rw [hs2]; exact putN10 _
      have HS2 := hid hs2
      have HD := hid hd
      obtain ⟨n1, n2, n3⟩ := add_no (a := s0) (b := s1) (by omega) (by omega)
      have n4 : ¬ (9223372036854775807 < s0.size + s1.size + s2.size) := by omega
      clear n3 hs2 hd
      go_wp2_with fail
      apply wp_region_knownJ9 (fun qq => ([.string s0, .pointer (some ⟨E, 3, none⟩), .int .i64 ((q : Int)), .string s1, .string (s0 ++ s1), .pointer (some ⟨E, 5, none⟩), .int .i64 x, .pointer (some ⟨C, 0, none⟩), .pointer (some ⟨E, 3, none⟩), .int .i64 ((q : Int)), .pointer (some ⟨C, 0, none⟩), .pointer (some ⟨C, 17, none⟩), .pointer (some ⟨C, 17 + q, none⟩), .int .i64 (c.x (q : Int)), .int .i64 d, .int .u64 (zigZ d : Int), .string s2, .string (s0 ++ s1 ++ s2), .string (s0 ++ s1 ++ s2)] : List Value).getD qq undef) (LB w2 19 18)
      focus (simp [putAll, dstOf, Act.put, List.getD]; rfl)
      case hm => kernel_rfl
      case hd => kernel_rfl
      case hb => kernel_rfl
      case hng => kernel_rfl
      case hsz => kernel_rfl
      case hext => exact fun l l' w h H => H.ext (by decide) h
      case h0 => exact LB.start (ext_drew (ext_refl _))
      case hstep =>
        refine ⟨?_, ?_, ?_, ?_, ?_, ?_, ?_, ?_, ?_, ?_, ?_, ?_, ?_, ?_, ?_, ?_, ?_, ?_, ?_,  trivial⟩
        · refine ⟨(fun g b h => by cases h), fun l w' hl hdp hJ hg ρ h1 h2 h3 h4 h5 => ?_⟩
          have HJ := hid hJ
          clear hJ
          have f5 : ρ (.tmp 5) = .string s0 := h5 5 (undone_one 18 (by kernel_rfl) (HJ.out.not (i := 0) (by decide) (by decide) hl))
          clear h4 h5 hg
          unfold OpY
          go_simp
          first | exact ⟨rfl, HJ.out.put (i := 0) (by decide) (by decide) hl (ext_refl _)⟩ | exact ⟨Or.inr rfl, HJ.out.put (i := 0) (by decide) (by decide) hl (ext_refl _)⟩
        · refine ⟨(fun g b h => by cases h), fun l w' hl hdp hJ hg ρ h1 h2 h3 h4 h5 => ?_⟩
          have HJ := hid hJ
          clear hJ
          have f3 : ρ (.tmp 3) = .pointer (some ⟨E, 0, none⟩) := h5 3 (undone_far (by kernel_rfl))
          clear h4 h5 hg
          unfold OpY
          go_simp
          first | exact ⟨rfl, HJ.out.put (i := 1) (by decide) (by decide) hl (ext_refl _)⟩ | exact ⟨Or.inr rfl, HJ.out.put (i := 1) (by decide) (by decide) hl (ext_refl _)⟩
        · refine ⟨(fun g b h => by cases h), fun l w' hl hdp hJ hg ρ h1 h2 h3 h4 h5 => ?_⟩
          have HJ := hid hJ
          clear hJ
          have f75 : ρ (.tmp 75) = .pointer (some ⟨E, 3, none⟩) := h4 1 75 (by kernel_rfl) (by kernel_rfl)
          have c : w'.cell? ⟨E, 3, none⟩ = some (.int .i64 ((q : Int))) := (HBE.out.below HJ.out.be).cell 3 rfl
          clear h4 h5 hg
          unfold OpY
          go_simp
          first | exact ⟨rfl, HJ.out.put (i := 2) (by decide) (by decide) hl (ext_refl _)⟩ | exact ⟨Or.inr rfl, HJ.out.put (i := 2) (by decide) (by decide) hl (ext_refl _)⟩
        · refine ⟨(fun g b h => by cases h), fun l w' hl hdp hJ hg ρ h1 h2 h3 h4 h5 => ?_⟩
          have HJ := hid hJ
          clear hJ
          have f76 : ρ (.tmp 76) = .int .i64 ((q : Int)) := h4 2 76 (by kernel_rfl) (by kernel_rfl)
          clear h4 h5 hg
          unfold OpY
          go_simp
          unfold OpR
          refine (HN1.out w').mono ?_
          rintro e' w'' ⟨rfl, hb⟩
          first | exact ⟨_, rfl, rfl, HJ.out.put (i := 3) (by decide) (by decide) hl hb⟩ | exact ⟨_, rfl, Or.inr rfl, HJ.out.put (i := 3) (by decide) (by decide) hl hb⟩
        · refine ⟨(fun g b h => by cases h), fun l w' hl hdp hJ hg ρ h1 h2 h3 h4 h5 => ?_⟩
          have HJ := hid hJ
          clear hJ
          have f74 : ρ (.tmp 74) = .string s0 := h4 0 74 (by kernel_rfl) (by kernel_rfl)
          have f77 : ρ (.tmp 77) = .string s1 := h4 3 77 (by kernel_rfl) (by kernel_rfl)
          clear h4 h5 hg
          unfold OpY
          go_simp
          first | exact ⟨rfl, HJ.out.put (i := 4) (by decide) (by decide) hl (ext_refl _)⟩ | exact ⟨Or.inr rfl, HJ.out.put (i := 4) (by decide) (by decide) hl (ext_refl _)⟩
        · refine ⟨(fun g b h => by cases h), fun l w' hl hdp hJ hg ρ h1 h2 h3 h4 h5 => ?_⟩
          have HJ := hid hJ
          clear hJ
          have f3 : ρ (.tmp 3) = .pointer (some ⟨E, 0, none⟩) := h5 3 (undone_far (by kernel_rfl))
          clear h4 h5 hg
          unfold OpY
          go_simp
          first | exact ⟨rfl, HJ.out.put (i := 5) (by decide) (by decide) hl (ext_refl _)⟩ | exact ⟨Or.inr rfl, HJ.out.put (i := 5) (by decide) (by decide) hl (ext_refl _)⟩
        · refine ⟨(fun g b h => by cases h), fun l w' hl hdp hJ hg ρ h1 h2 h3 h4 h5 => ?_⟩
          have HJ := hid hJ
          clear hJ
          have f79 : ρ (.tmp 79) = .pointer (some ⟨E, 5, none⟩) := h4 5 79 (by kernel_rfl) (by kernel_rfl)
          have c : w'.cell? ⟨E, 5, none⟩ = some (.int .i64 x) := (HBE.out.below HJ.out.be).cell 5 rfl
          clear h4 h5 hg
          unfold OpY
          go_simp
          first | exact ⟨rfl, HJ.out.put (i := 6) (by decide) (by decide) hl (ext_refl _)⟩ | exact ⟨Or.inr rfl, HJ.out.put (i := 6) (by decide) (by decide) hl (ext_refl _)⟩
        · refine ⟨(fun g b h => by cases h), fun l w' hl hdp hJ hg ρ h1 h2 h3 h4 h5 => ?_⟩
          have HJ := hid hJ
          clear hJ
          have f0 : ρ (.tmp 0) = .pointer (some ⟨C, 0, none⟩) := h5 0 (undone_far (by kernel_rfl))
          clear h4 h5 hg
          unfold OpY
          go_simp
          first | exact ⟨rfl, HJ.out.put (i := 7) (by decide) (by decide) hl (ext_refl _)⟩ | exact ⟨Or.inr rfl, HJ.out.put (i := 7) (by decide) (by decide) hl (ext_refl _)⟩
        · refine ⟨(fun g b h => by cases h), fun l w' hl hdp hJ hg ρ h1 h2 h3 h4 h5 => ?_⟩
          have HJ := hid hJ
          clear hJ
          have f3 : ρ (.tmp 3) = .pointer (some ⟨E, 0, none⟩) := h5 3 (undone_far (by kernel_rfl))
          clear h4 h5 hg
          unfold OpY
          go_simp
          first | exact ⟨rfl, HJ.out.put (i := 8) (by decide) (by decide) hl (ext_refl _)⟩ | exact ⟨Or.inr rfl, HJ.out.put (i := 8) (by decide) (by decide) hl (ext_refl _)⟩
        · refine ⟨(fun g b h => by cases h), fun l w' hl hdp hJ hg ρ h1 h2 h3 h4 h5 => ?_⟩
          have HJ := hid hJ
          clear hJ
          have f82 : ρ (.tmp 82) = .pointer (some ⟨E, 3, none⟩) := h4 8 82 (by kernel_rfl) (by kernel_rfl)
          have c : w'.cell? ⟨E, 3, none⟩ = some (.int .i64 ((q : Int))) := (HBE.out.below HJ.out.be).cell 3 rfl
          clear h4 h5 hg
          unfold OpY
          go_simp
          first | exact ⟨rfl, HJ.out.put (i := 9) (by decide) (by decide) hl (ext_refl _)⟩ | exact ⟨Or.inr rfl, HJ.out.put (i := 9) (by decide) (by decide) hl (ext_refl _)⟩
        · refine ⟨(fun g b h => by cases h), fun l w' hl hdp hJ hg ρ h1 h2 h3 h4 h5 => ?_⟩
          have HJ := hid hJ
          clear hJ
          have f81 : ρ (.tmp 81) = .pointer (some ⟨C, 0, none⟩) := h4 7 81 (by kernel_rfl) (by kernel_rfl)
          clear h4 h5 hg
          unfold OpY
          go_simp
          first | exact ⟨rfl, HJ.out.put (i := 10) (by decide) (by decide) hl (ext_refl _)⟩ | exact ⟨Or.inr rfl, HJ.out.put (i := 10) (by decide) (by decide) hl (ext_refl _)⟩
        · refine ⟨(fun g b h => by cases h), fun l w' hl hdp hJ hg ρ h1 h2 h3 h4 h5 => ?_⟩
          have HJ := hid hJ
          clear hJ
          have f84 : ρ (.tmp 84) = .pointer (some ⟨C, 0, none⟩) := h4 10 84 (by kernel_rfl) (by kernel_rfl)
          clear h4 h5 hg
          unfold OpY
          go_simp
          first | exact ⟨rfl, HJ.out.put (i := 11) (by decide) (by decide) hl (ext_refl _)⟩ | exact ⟨Or.inr rfl, HJ.out.put (i := 11) (by decide) (by decide) hl (ext_refl _)⟩
        · refine ⟨(fun g b h => by cases h), fun l w' hl hdp hJ hg ρ h1 h2 h3 h4 h5 => ?_⟩
          have HJ := hid hJ
          clear hJ
          have f85 : ρ (.tmp 85) = .pointer (some ⟨C, 17, none⟩) := h4 11 85 (by kernel_rfl) (by kernel_rfl)
          have f83 : ρ (.tmp 83) = .int .i64 ((q : Int)) := h4 9 83 (by kernel_rfl) (by kernel_rfl)
          clear h4 h5 hg
          unfold OpY
          go_simp
          first | exact ⟨rfl, HJ.out.put (i := 12) (by decide) (by decide) hl (ext_refl _)⟩ | exact ⟨Or.inr rfl, HJ.out.put (i := 12) (by decide) (by decide) hl (ext_refl _)⟩
        · refine ⟨(fun g b h => by cases h), fun l w' hl hdp hJ hg ρ h1 h2 h3 h4 h5 => ?_⟩
          have HJ := hid hJ
          clear hJ
          have f86 : ρ (.tmp 86) = .pointer (some ⟨C, 17 + q, none⟩) := h4 12 86 (by kernel_rfl) (by kernel_rfl)
          have c := (HBC.out.below HJ.out.be).cell (17 + q) (cdr_x T V S c HQ32.out)
          clear h4 h5 hg
          unfold OpY
          go_simp
          first | exact ⟨rfl, HJ.out.put (i := 13) (by decide) (by decide) hl (ext_refl _)⟩ | exact ⟨Or.inr rfl, HJ.out.put (i := 13) (by decide) (by decide) hl (ext_refl _)⟩
        · refine ⟨(fun g b h => by cases h), fun l w' hl hdp hJ hg ρ h1 h2 h3 h4 h5 => ?_⟩
          have HJ := hid hJ
          clear hJ
          have f80 : ρ (.tmp 80) = .int .i64 x := h4 6 80 (by kernel_rfl) (by kernel_rfl)
          have f87 : ρ (.tmp 87) = .int .i64 (c.x (q : Int)) := h4 13 87 (by kernel_rfl) (by kernel_rfl)
          clear h4 h5 hg
          unfold OpY
          go_simp
          first | exact ⟨rfl, HJ.out.put (i := 14) (by decide) (by decide) hl (ext_refl _)⟩ | exact ⟨Or.inr rfl, HJ.out.put (i := 14) (by decide) (by decide) hl (ext_refl _)⟩
        · refine ⟨(fun g b h => by cases h), fun l w' hl hdp hJ hg ρ h1 h2 h3 h4 h5 => ?_⟩
          have HJ := hid hJ
          clear hJ
          have f88 : ρ (.tmp 88) = .int .i64 d := h4 14 88 (by kernel_rfl) (by kernel_rfl)
          clear h4 h5 hg
          unfold OpY
          go_simp
          unfold OpR
          refine (HZG.out w').mono ?_
          rintro e' w'' ⟨rfl, rfl⟩
          first | exact ⟨_, rfl, rfl, HJ.out.put (i := 15) (by decide) (by decide) hl (ext_refl _)⟩ | exact ⟨_, rfl, Or.inr rfl, HJ.out.put (i := 15) (by decide) (by decide) hl (ext_refl _)⟩
        · refine ⟨(fun g b h => by cases h), fun l w' hl hdp hJ hg ρ h1 h2 h3 h4 h5 => ?_⟩
          have HJ := hid hJ
          clear hJ
          have f89 : ρ (.tmp 89) = .int .u64 (zigZ d : Int) := h4 15 89 (by kernel_rfl) (by kernel_rfl)
          clear h4 h5 hg
          unfold OpY
          go_simp
          unfold OpR
          refine (HN2.out w').mono ?_
          rintro e' w'' ⟨rfl, hb⟩
          first | exact ⟨_, rfl, rfl, HJ.out.put (i := 16) (by decide) (by decide) hl hb⟩ | exact ⟨_, rfl, Or.inr rfl, HJ.out.put (i := 16) (by decide) (by decide) hl hb⟩
        · refine ⟨(fun g b h => by cases h), fun l w' hl hdp hJ hg ρ h1 h2 h3 h4 h5 => ?_⟩
          have HJ := hid hJ
          clear hJ
          have f78 : ρ (.tmp 78) = .string (s0 ++ s1) := h4 4 78 (by kernel_rfl) (by kernel_rfl)
          have f90 : ρ (.tmp 90) = .string s2 := h4 16 90 (by kernel_rfl) (by kernel_rfl)
          clear h4 h5 hg
          unfold OpY
          go_simp
          first | exact ⟨rfl, HJ.out.put (i := 17) (by decide) (by decide) hl (ext_refl _)⟩ | exact ⟨Or.inr rfl, HJ.out.put (i := 17) (by decide) (by decide) hl (ext_refl _)⟩
        · refine ⟨(fun g b h => by cases h), fun l w' hl hdp hJ hg ρ h1 h2 h3 h4 h5 => ?_⟩
          have HJ := hid hJ
          clear hJ
          have f91 : ρ (.tmp 91) = .string (s0 ++ s1 ++ s2) := h4 17 91 (by kernel_rfl) (by kernel_rfl)
          have hall : ∀ q, q < 19 → q ≠ 18 → l q = true := all_last (by kernel_rfl) hdp
          have HALL := hid hall
          clear hall h4 h5 hg
          unfold OpY
          go_simp
          first | exact ⟨rfl, HJ.out.last HALL.out⟩ | exact ⟨Or.inr rfl, HJ.out.last HALL.out⟩
      case hdone =>
        intro w3 hJ
        have HB3 := hid (ext_trans HB2.out hJ.be)
        clear hJ
        go_wp2_with fail
        rw [HQ.out]
        refine ⟨?_, HB3.out⟩
        have hn : numsC c ⟨3, (th : Int), tx, (q : Int), v, x, why⟩ = [(q : Int).toNat, zigZ d] := (by rw [HD.out]; rfl)
        have hby : bytesC T c ⟨3, (th : Int), tx, (q : Int), v, x, why⟩ = putN (p + r).toNat ++ putN ((q : Int).toNat) ++ putN (zigZ d) := by
          unfold bytesC
          rw [HFI.out, hn]
          simp
        rw [hby, bstr_app, bstr_app, ← HS0.out, ← HS1.out, ← HS2.out]
        rfl
    · subst hk
      have HN1 := hid (fun W => rnum_i (at_) W (by have := HF.out; omega))
      obtain ⟨s1, hs1⟩ : ∃ q, q = bstr (putN (at_).toNat) := ⟨_, rfl⟩
      rw [← hs1] at HN1
      have z1 : s1.size ≤ 10 := by rw [hs1]; exact putN10 _
      have HS1 := hid hs1
      clear hs1
      have y3 := HBE.out.cell 3 (v := .int .i64 at_) rfl
      obtain ⟨n1, n2, n3⟩ := add_no (a := s0) (b := s1) (by omega) (by omega)
      clear n3
      go_wp2_with fail
      refine (HN1.out _).mono ?_
      rintro e' w3 ⟨rfl, hb3⟩
      have HB3 := hid (ext_trans HB2.out hb3)
      clear hb3
      go_wp2_with fail
      rw [HQ.out]
      refine ⟨?_, HB3.out⟩
      have hn : numsC c ⟨4, (th : Int), tx, at_, v, x, why⟩ = [at_.toNat] := rfl
      have hby : bytesC T c ⟨4, (th : Int), tx, at_, v, x, why⟩ = putN (p + r).toNat ++ putN (at_.toNat) := by
        unfold bytesC
        rw [HFI.out, hn]
        simp
      rw [hby, bstr_app, ← HS0.out, ← HS1.out]
      rfl
    · subst hk
      have HN1 := hid (fun W => rnum_i (v - c.clock) W (by have h1 := HF.out; have h2 := HK2.out.2.2 rfl; have h3 := HCC.out.clock; unfold maxClockN at h3; omega))
      obtain ⟨s1, hs1⟩ : ∃ q, q = bstr (putN (v - c.clock).toNat) := ⟨_, rfl⟩
      rw [← hs1] at HN1
      have z1 : s1.size ≤ 10 := by rw [hs1]; exact putN10 _
      have HS1 := hid hs1
      clear hs1
      obtain ⟨n1, n2, n3⟩ := add_no (a := s0) (b := s1) (by omega) (by omega)
      have j1 : IntKind.i64.wrap (v - c.clock) = v - c.clock := IntWalk.i64_in _ (by have := HF.out; have := HCC.out.clock; unfold maxClockN at this; omega)
      clear n3
      go_wp2_with fail
      apply wp_region_knownJ9 (fun qq => ([.string s0, .pointer (some ⟨E, 4, none⟩), .int .i64 v, .pointer (some ⟨C, 0, none⟩), .pointer (some ⟨C, 0, none⟩), .pointer (some ⟨C, 4, none⟩), .int .i64 (c.clock), .int .i64 (v - c.clock), .string s1, .string (s0 ++ s1), .string (s0 ++ s1)] : List Value).getD qq undef) (LB w2 11 10)
      focus (simp [putAll, dstOf, Act.put, List.getD]; rfl)
      case hm => kernel_rfl
      case hd => kernel_rfl
      case hb => kernel_rfl
      case hng => kernel_rfl
      case hsz => kernel_rfl
      case hext => exact fun l l' w h H => H.ext (by decide) h
      case h0 => exact LB.start (ext_drew (ext_refl _))
      case hstep =>
        refine ⟨?_, ?_, ?_, ?_, ?_, ?_, ?_, ?_, ?_, ?_, ?_,  trivial⟩
        · refine ⟨(fun g b h => by cases h), fun l w' hl hdp hJ hg ρ h1 h2 h3 h4 h5 => ?_⟩
          have HJ := hid hJ
          clear hJ
          have f5 : ρ (.tmp 5) = .string s0 := h5 5 (undone_one 10 (by kernel_rfl) (HJ.out.not (i := 0) (by decide) (by decide) hl))
          clear h4 h5 hg
          unfold OpY
          go_simp
          first | exact ⟨rfl, HJ.out.put (i := 0) (by decide) (by decide) hl (ext_refl _)⟩ | exact ⟨Or.inr rfl, HJ.out.put (i := 0) (by decide) (by decide) hl (ext_refl _)⟩
        · refine ⟨(fun g b h => by cases h), fun l w' hl hdp hJ hg ρ h1 h2 h3 h4 h5 => ?_⟩
          have HJ := hid hJ
          clear hJ
          have f3 : ρ (.tmp 3) = .pointer (some ⟨E, 0, none⟩) := h5 3 (undone_far (by kernel_rfl))
          clear h4 h5 hg
          unfold OpY
          go_simp
          first | exact ⟨rfl, HJ.out.put (i := 1) (by decide) (by decide) hl (ext_refl _)⟩ | exact ⟨Or.inr rfl, HJ.out.put (i := 1) (by decide) (by decide) hl (ext_refl _)⟩
        · refine ⟨(fun g b h => by cases h), fun l w' hl hdp hJ hg ρ h1 h2 h3 h4 h5 => ?_⟩
          have HJ := hid hJ
          clear hJ
          have f105 : ρ (.tmp 105) = .pointer (some ⟨E, 4, none⟩) := h4 1 105 (by kernel_rfl) (by kernel_rfl)
          have c : w'.cell? ⟨E, 4, none⟩ = some (.int .i64 v) := (HBE.out.below HJ.out.be).cell 4 rfl
          clear h4 h5 hg
          unfold OpY
          go_simp
          first | exact ⟨rfl, HJ.out.put (i := 2) (by decide) (by decide) hl (ext_refl _)⟩ | exact ⟨Or.inr rfl, HJ.out.put (i := 2) (by decide) (by decide) hl (ext_refl _)⟩
        · refine ⟨(fun g b h => by cases h), fun l w' hl hdp hJ hg ρ h1 h2 h3 h4 h5 => ?_⟩
          have HJ := hid hJ
          clear hJ
          have f0 : ρ (.tmp 0) = .pointer (some ⟨C, 0, none⟩) := h5 0 (undone_far (by kernel_rfl))
          clear h4 h5 hg
          unfold OpY
          go_simp
          first | exact ⟨rfl, HJ.out.put (i := 3) (by decide) (by decide) hl (ext_refl _)⟩ | exact ⟨Or.inr rfl, HJ.out.put (i := 3) (by decide) (by decide) hl (ext_refl _)⟩
        · refine ⟨(fun g b h => by cases h), fun l w' hl hdp hJ hg ρ h1 h2 h3 h4 h5 => ?_⟩
          have HJ := hid hJ
          clear hJ
          have f107 : ρ (.tmp 107) = .pointer (some ⟨C, 0, none⟩) := h4 3 107 (by kernel_rfl) (by kernel_rfl)
          clear h4 h5 hg
          unfold OpY
          go_simp
          first | exact ⟨rfl, HJ.out.put (i := 4) (by decide) (by decide) hl (ext_refl _)⟩ | exact ⟨Or.inr rfl, HJ.out.put (i := 4) (by decide) (by decide) hl (ext_refl _)⟩
        · refine ⟨(fun g b h => by cases h), fun l w' hl hdp hJ hg ρ h1 h2 h3 h4 h5 => ?_⟩
          have HJ := hid hJ
          clear hJ
          have f108 : ρ (.tmp 108) = .pointer (some ⟨C, 0, none⟩) := h4 4 108 (by kernel_rfl) (by kernel_rfl)
          clear h4 h5 hg
          unfold OpY
          go_simp
          first | exact ⟨rfl, HJ.out.put (i := 5) (by decide) (by decide) hl (ext_refl _)⟩ | exact ⟨Or.inr rfl, HJ.out.put (i := 5) (by decide) (by decide) hl (ext_refl _)⟩
        · refine ⟨(fun g b h => by cases h), fun l w' hl hdp hJ hg ρ h1 h2 h3 h4 h5 => ?_⟩
          have HJ := hid hJ
          clear hJ
          have f109 : ρ (.tmp 109) = .pointer (some ⟨C, 4, none⟩) := h4 5 109 (by kernel_rfl) (by kernel_rfl)
          have c : w'.cell? ⟨C, 4, none⟩ = some (.int .i64 (c.clock)) := (HBC.out.below HJ.out.be).cell 4 rfl
          clear h4 h5 hg
          unfold OpY
          go_simp
          first | exact ⟨rfl, HJ.out.put (i := 6) (by decide) (by decide) hl (ext_refl _)⟩ | exact ⟨Or.inr rfl, HJ.out.put (i := 6) (by decide) (by decide) hl (ext_refl _)⟩
        · refine ⟨(fun g b h => by cases h), fun l w' hl hdp hJ hg ρ h1 h2 h3 h4 h5 => ?_⟩
          have HJ := hid hJ
          clear hJ
          have f106 : ρ (.tmp 106) = .int .i64 v := h4 2 106 (by kernel_rfl) (by kernel_rfl)
          have f110 : ρ (.tmp 110) = .int .i64 (c.clock) := h4 6 110 (by kernel_rfl) (by kernel_rfl)
          clear h4 h5 hg
          unfold OpY
          go_simp
          first | exact ⟨rfl, HJ.out.put (i := 7) (by decide) (by decide) hl (ext_refl _)⟩ | exact ⟨Or.inr rfl, HJ.out.put (i := 7) (by decide) (by decide) hl (ext_refl _)⟩
        · refine ⟨(fun g b h => by cases h), fun l w' hl hdp hJ hg ρ h1 h2 h3 h4 h5 => ?_⟩
          have HJ := hid hJ
          clear hJ
          have f111 : ρ (.tmp 111) = .int .i64 (v - c.clock) := h4 7 111 (by kernel_rfl) (by kernel_rfl)
          clear h4 h5 hg
          unfold OpY
          go_simp
          unfold OpR
          refine (HN1.out w').mono ?_
          rintro e' w'' ⟨rfl, hb⟩
          first | exact ⟨_, rfl, rfl, HJ.out.put (i := 8) (by decide) (by decide) hl hb⟩ | exact ⟨_, rfl, Or.inr rfl, HJ.out.put (i := 8) (by decide) (by decide) hl hb⟩
        · refine ⟨(fun g b h => by cases h), fun l w' hl hdp hJ hg ρ h1 h2 h3 h4 h5 => ?_⟩
          have HJ := hid hJ
          clear hJ
          have f104 : ρ (.tmp 104) = .string s0 := h4 0 104 (by kernel_rfl) (by kernel_rfl)
          have f112 : ρ (.tmp 112) = .string s1 := h4 8 112 (by kernel_rfl) (by kernel_rfl)
          clear h4 h5 hg
          unfold OpY
          go_simp
          first | exact ⟨rfl, HJ.out.put (i := 9) (by decide) (by decide) hl (ext_refl _)⟩ | exact ⟨Or.inr rfl, HJ.out.put (i := 9) (by decide) (by decide) hl (ext_refl _)⟩
        · refine ⟨(fun g b h => by cases h), fun l w' hl hdp hJ hg ρ h1 h2 h3 h4 h5 => ?_⟩
          have HJ := hid hJ
          clear hJ
          have f113 : ρ (.tmp 113) = .string (s0 ++ s1) := h4 9 113 (by kernel_rfl) (by kernel_rfl)
          have hall : ∀ q, q < 11 → q ≠ 10 → l q = true := all_last (by kernel_rfl) hdp
          have HALL := hid hall
          clear hall h4 h5 hg
          unfold OpY
          go_simp
          first | exact ⟨rfl, HJ.out.last HALL.out⟩ | exact ⟨Or.inr rfl, HJ.out.last HALL.out⟩
      case hdone =>
        intro w3 hJ
        have HB3 := hid (ext_trans HB2.out hJ.be)
        clear hJ
        go_wp2_with fail
        rw [HQ.out]
        refine ⟨?_, HB3.out⟩
        have hn : numsC c ⟨5, (th : Int), tx, at_, v, x, why⟩ = [(v - c.clock).toNat] := rfl
        have hby : bytesC T c ⟨5, (th : Int), tx, at_, v, x, why⟩ = putN (p + r).toNat ++ putN ((v - c.clock).toNat) := by
          unfold bytesC
          rw [HFI.out, hn]
          simp
        rw [hby, bstr_app, ← HS0.out, ← HS1.out]
        rfl
    · subst hk
      have HN1 := hid (fun W => rnum_i (at_) W (by have := HF.out; omega))
      obtain ⟨s1, hs1⟩ : ∃ q, q = bstr (putN (at_).toNat) := ⟨_, rfl⟩
      rw [← hs1] at HN1
      have z1 : s1.size ≤ 10 := by rw [hs1]; exact putN10 _
      have HS1 := hid hs1
      clear hs1
      have y3 := HBE.out.cell 3 (v := .int .i64 at_) rfl
      obtain ⟨n1, n2, n3⟩ := add_no (a := s0) (b := s1) (by omega) (by omega)
      clear n3
      go_wp2_with fail
      refine (HN1.out _).mono ?_
      rintro e' w3 ⟨rfl, hb3⟩
      have HB3 := hid (ext_trans HB2.out hb3)
      clear hb3
      go_wp2_with fail
      rw [HQ.out]
      refine ⟨?_, HB3.out⟩
      have hn : numsC c ⟨6, (th : Int), tx, at_, v, x, why⟩ = [at_.toNat] := rfl
      have hby : bytesC T c ⟨6, (th : Int), tx, at_, v, x, why⟩ = putN (p + r).toNat ++ putN (at_.toNat) := by
        unfold bytesC
        rw [HFI.out, hn]
        simp
      rw [hby, bstr_app, ← HS0.out, ← HS1.out]
      rfl
    · subst hk
      have y4 := HBE.out.cell 4 (v := .int .i64 v) rfl
      by_cases hv : v = 0
      · have g1 : (v == 0) = true := by simp [hv]
        have HN1 := hid (fun W => rnum_i ((0 : Int)) W (by decide))
        obtain ⟨s1, hs1⟩ : ∃ q, q = bstr (putN ((0 : Int)).toNat) := ⟨_, rfl⟩
        rw [← hs1] at HN1
        have z1 : s1.size ≤ 10 := by rw [hs1]; exact putN10 _
        have HS1 := hid hs1
        clear hs1
        have HV := hid hv
        obtain ⟨n1, n2, n3⟩ := add_no (a := s0) (b := s1) (by omega) (by omega)
        clear n3 hv
        go_wp2_with fail
        refine (HN1.out _).mono ?_
        rintro e' w3 ⟨rfl, hb3⟩
        have HB3 := hid (ext_trans HB2.out hb3)
        clear hb3
        go_wp2_with fail
        rw [HQ.out]
        refine ⟨?_, HB3.out⟩
        have hn : numsC c ⟨7, (th : Int), tx, at_, v, x, why⟩ = [(0 : Int).toNat] := (by show [if v = 0 then 0 else 1] = _; rw [if_pos HV.out]; rfl)
        have hby : bytesC T c ⟨7, (th : Int), tx, at_, v, x, why⟩ = putN (p + r).toNat ++ putN ((0 : Int).toNat) := by
          unfold bytesC
          rw [HFI.out, hn]
          simp
        rw [hby, bstr_app, ← HS0.out, ← HS1.out]
        rfl
      · have g1 : (v == 0) = false := by simp [hv]
        have g2 : decide (v = 0) = false := by simp [hv]
        have HN1 := hid (fun W => rnum_i ((1 : Int)) W (by decide))
        obtain ⟨s1, hs1⟩ : ∃ q, q = bstr (putN ((1 : Int)).toNat) := ⟨_, rfl⟩
        rw [← hs1] at HN1
        have z1 : s1.size ≤ 10 := by rw [hs1]; exact putN10 _
        have HS1 := hid hs1
        clear hs1
        have HV := hid hv
        obtain ⟨n1, n2, n3⟩ := add_no (a := s0) (b := s1) (by omega) (by omega)
        clear n3 hv
        go_wp2_with fail
        refine (HN1.out _).mono ?_
        rintro e' w3 ⟨rfl, hb3⟩
        have HB3 := hid (ext_trans HB2.out hb3)
        clear hb3
        go_wp2_with fail
        rw [HQ.out]
        refine ⟨?_, HB3.out⟩
        have hn : numsC c ⟨7, (th : Int), tx, at_, v, x, why⟩ = [(1 : Int).toNat] := (by show [if v = 0 then 0 else 1] = _; rw [if_neg HV.out]; rfl)
        have hby : bytesC T c ⟨7, (th : Int), tx, at_, v, x, why⟩ = putN (p + r).toNat ++ putN ((1 : Int).toNat) := by
          unfold bytesC
          rw [HFI.out, hn]
          simp
        rw [hby, bstr_app, ← HS0.out, ← HS1.out]
        rfl
    · subst hk
      have HN1 := hid (fun W => rnum_i (at_) W (by have := HF.out; omega))
      obtain ⟨s1, hs1⟩ : ∃ q, q = bstr (putN (at_).toNat) := ⟨_, rfl⟩
      rw [← hs1] at HN1
      have z1 : s1.size ≤ 10 := by rw [hs1]; exact putN10 _
      have HS1 := hid hs1
      clear hs1
      obtain ⟨q, rfl⟩ := Int.eq_ofNat_of_zero_le HF.out.2.1.1
      have HQ32 : Hid (q < 32) := hid (by have := HF.out; omega)
      have jq0 : (0 : Int) ≤ (q : Int) := by omega
      have jq1 : (q : Int) < 32 := by have := HF.out; omega
      obtain ⟨d, hd⟩ : ∃ d, d = w64 (x - c.x (q : Int)) := ⟨_, rfl⟩
      have j1 := wrap_w64 (x - c.x (q : Int))
      rw [← hd] at j1
      have HZG := hid (fun W => rzig_any d W (by rw [hd]; exact w64_ok _))
      have HN2 := hid (fun W => rput_x (zigZ d) W (zig_lt d (by rw [hd]; exact w64_ok _)))
      obtain ⟨s2, hs2⟩ : ∃ q, q = bstr (putN (zigZ d)) := ⟨_, rfl⟩
      rw [← hs2] at HN2
      have z2 : s2.size ≤ 10 := by rw [hs2]; exact putN10 _
      have HS2 := hid hs2
      have HD := hid hd
      obtain ⟨n1, n2, n3⟩ := add_no (a := s0) (b := s1) (by omega) (by omega)
      have n4 : ¬ (9223372036854775807 < s0.size + s1.size + s2.size) := by omega
      clear n3 hs2 hd
      go_wp2_with fail
      apply wp_region_knownJ9 (fun qq => ([.string s0, .pointer (some ⟨E, 3, none⟩), .int .i64 ((q : Int)), .string s1, .string (s0 ++ s1), .pointer (some ⟨E, 5, none⟩), .int .i64 x, .pointer (some ⟨C, 0, none⟩), .pointer (some ⟨E, 3, none⟩), .int .i64 ((q : Int)), .pointer (some ⟨C, 0, none⟩), .pointer (some ⟨C, 17, none⟩), .pointer (some ⟨C, 17 + q, none⟩), .int .i64 (c.x (q : Int)), .int .i64 d, .int .u64 (zigZ d : Int), .string s2, .string (s0 ++ s1 ++ s2), .string (s0 ++ s1 ++ s2)] : List Value).getD qq undef) (LB w2 19 18)
      focus (simp [putAll, dstOf, Act.put, List.getD]; rfl)
      case hm => kernel_rfl
      case hd => kernel_rfl
      case hb => kernel_rfl
      case hng => kernel_rfl
      case hsz => kernel_rfl
      case hext => exact fun l l' w h H => H.ext (by decide) h
      case h0 => exact LB.start (ext_drew (ext_refl _))
      case hstep =>
        refine ⟨?_, ?_, ?_, ?_, ?_, ?_, ?_, ?_, ?_, ?_, ?_, ?_, ?_, ?_, ?_, ?_, ?_, ?_, ?_,  trivial⟩
        · refine ⟨(fun g b h => by cases h), fun l w' hl hdp hJ hg ρ h1 h2 h3 h4 h5 => ?_⟩
          have HJ := hid hJ
          clear hJ
          have f5 : ρ (.tmp 5) = .string s0 := h5 5 (undone_one 18 (by kernel_rfl) (HJ.out.not (i := 0) (by decide) (by decide) hl))
          clear h4 h5 hg
          unfold OpY
          go_simp
          first | exact ⟨rfl, HJ.out.put (i := 0) (by decide) (by decide) hl (ext_refl _)⟩ | exact ⟨Or.inr rfl, HJ.out.put (i := 0) (by decide) (by decide) hl (ext_refl _)⟩
        · refine ⟨(fun g b h => by cases h), fun l w' hl hdp hJ hg ρ h1 h2 h3 h4 h5 => ?_⟩
          have HJ := hid hJ
          clear hJ
          have f3 : ρ (.tmp 3) = .pointer (some ⟨E, 0, none⟩) := h5 3 (undone_far (by kernel_rfl))
          clear h4 h5 hg
          unfold OpY
          go_simp
          first | exact ⟨rfl, HJ.out.put (i := 1) (by decide) (by decide) hl (ext_refl _)⟩ | exact ⟨Or.inr rfl, HJ.out.put (i := 1) (by decide) (by decide) hl (ext_refl _)⟩
        · refine ⟨(fun g b h => by cases h), fun l w' hl hdp hJ hg ρ h1 h2 h3 h4 h5 => ?_⟩
          have HJ := hid hJ
          clear hJ
          have f75 : ρ (.tmp 75) = .pointer (some ⟨E, 3, none⟩) := h4 1 75 (by kernel_rfl) (by kernel_rfl)
          have c : w'.cell? ⟨E, 3, none⟩ = some (.int .i64 ((q : Int))) := (HBE.out.below HJ.out.be).cell 3 rfl
          clear h4 h5 hg
          unfold OpY
          go_simp
          first | exact ⟨rfl, HJ.out.put (i := 2) (by decide) (by decide) hl (ext_refl _)⟩ | exact ⟨Or.inr rfl, HJ.out.put (i := 2) (by decide) (by decide) hl (ext_refl _)⟩
        · refine ⟨(fun g b h => by cases h), fun l w' hl hdp hJ hg ρ h1 h2 h3 h4 h5 => ?_⟩
          have HJ := hid hJ
          clear hJ
          have f76 : ρ (.tmp 76) = .int .i64 ((q : Int)) := h4 2 76 (by kernel_rfl) (by kernel_rfl)
          clear h4 h5 hg
          unfold OpY
          go_simp
          unfold OpR
          refine (HN1.out w').mono ?_
          rintro e' w'' ⟨rfl, hb⟩
          first | exact ⟨_, rfl, rfl, HJ.out.put (i := 3) (by decide) (by decide) hl hb⟩ | exact ⟨_, rfl, Or.inr rfl, HJ.out.put (i := 3) (by decide) (by decide) hl hb⟩
        · refine ⟨(fun g b h => by cases h), fun l w' hl hdp hJ hg ρ h1 h2 h3 h4 h5 => ?_⟩
          have HJ := hid hJ
          clear hJ
          have f74 : ρ (.tmp 74) = .string s0 := h4 0 74 (by kernel_rfl) (by kernel_rfl)
          have f77 : ρ (.tmp 77) = .string s1 := h4 3 77 (by kernel_rfl) (by kernel_rfl)
          clear h4 h5 hg
          unfold OpY
          go_simp
          first | exact ⟨rfl, HJ.out.put (i := 4) (by decide) (by decide) hl (ext_refl _)⟩ | exact ⟨Or.inr rfl, HJ.out.put (i := 4) (by decide) (by decide) hl (ext_refl _)⟩
        · refine ⟨(fun g b h => by cases h), fun l w' hl hdp hJ hg ρ h1 h2 h3 h4 h5 => ?_⟩
          have HJ := hid hJ
          clear hJ
          have f3 : ρ (.tmp 3) = .pointer (some ⟨E, 0, none⟩) := h5 3 (undone_far (by kernel_rfl))
          clear h4 h5 hg
          unfold OpY
          go_simp
          first | exact ⟨rfl, HJ.out.put (i := 5) (by decide) (by decide) hl (ext_refl _)⟩ | exact ⟨Or.inr rfl, HJ.out.put (i := 5) (by decide) (by decide) hl (ext_refl _)⟩
        · refine ⟨(fun g b h => by cases h), fun l w' hl hdp hJ hg ρ h1 h2 h3 h4 h5 => ?_⟩
          have HJ := hid hJ
          clear hJ
          have f79 : ρ (.tmp 79) = .pointer (some ⟨E, 5, none⟩) := h4 5 79 (by kernel_rfl) (by kernel_rfl)
          have c : w'.cell? ⟨E, 5, none⟩ = some (.int .i64 x) := (HBE.out.below HJ.out.be).cell 5 rfl
          clear h4 h5 hg
          unfold OpY
          go_simp
          first | exact ⟨rfl, HJ.out.put (i := 6) (by decide) (by decide) hl (ext_refl _)⟩ | exact ⟨Or.inr rfl, HJ.out.put (i := 6) (by decide) (by decide) hl (ext_refl _)⟩
        · refine ⟨(fun g b h => by cases h), fun l w' hl hdp hJ hg ρ h1 h2 h3 h4 h5 => ?_⟩
          have HJ := hid hJ
          clear hJ
          have f0 : ρ (.tmp 0) = .pointer (some ⟨C, 0, none⟩) := h5 0 (undone_far (by kernel_rfl))
          clear h4 h5 hg
          unfold OpY
          go_simp
          first | exact ⟨rfl, HJ.out.put (i := 7) (by decide) (by decide) hl (ext_refl _)⟩ | exact ⟨Or.inr rfl, HJ.out.put (i := 7) (by decide) (by decide) hl (ext_refl _)⟩
        · refine ⟨(fun g b h => by cases h), fun l w' hl hdp hJ hg ρ h1 h2 h3 h4 h5 => ?_⟩
          have HJ := hid hJ
          clear hJ
          have f3 : ρ (.tmp 3) = .pointer (some ⟨E, 0, none⟩) := h5 3 (undone_far (by kernel_rfl))
          clear h4 h5 hg
          unfold OpY
          go_simp
          first | exact ⟨rfl, HJ.out.put (i := 8) (by decide) (by decide) hl (ext_refl _)⟩ | exact ⟨Or.inr rfl, HJ.out.put (i := 8) (by decide) (by decide) hl (ext_refl _)⟩
        · refine ⟨(fun g b h => by cases h), fun l w' hl hdp hJ hg ρ h1 h2 h3 h4 h5 => ?_⟩
          have HJ := hid hJ
          clear hJ
          have f82 : ρ (.tmp 82) = .pointer (some ⟨E, 3, none⟩) := h4 8 82 (by kernel_rfl) (by kernel_rfl)
          have c : w'.cell? ⟨E, 3, none⟩ = some (.int .i64 ((q : Int))) := (HBE.out.below HJ.out.be).cell 3 rfl
          clear h4 h5 hg
          unfold OpY
          go_simp
          first | exact ⟨rfl, HJ.out.put (i := 9) (by decide) (by decide) hl (ext_refl _)⟩ | exact ⟨Or.inr rfl, HJ.out.put (i := 9) (by decide) (by decide) hl (ext_refl _)⟩
        · refine ⟨(fun g b h => by cases h), fun l w' hl hdp hJ hg ρ h1 h2 h3 h4 h5 => ?_⟩
          have HJ := hid hJ
          clear hJ
          have f81 : ρ (.tmp 81) = .pointer (some ⟨C, 0, none⟩) := h4 7 81 (by kernel_rfl) (by kernel_rfl)
          clear h4 h5 hg
          unfold OpY
          go_simp
          first | exact ⟨rfl, HJ.out.put (i := 10) (by decide) (by decide) hl (ext_refl _)⟩ | exact ⟨Or.inr rfl, HJ.out.put (i := 10) (by decide) (by decide) hl (ext_refl _)⟩
        · refine ⟨(fun g b h => by cases h), fun l w' hl hdp hJ hg ρ h1 h2 h3 h4 h5 => ?_⟩
          have HJ := hid hJ
          clear hJ
          have f84 : ρ (.tmp 84) = .pointer (some ⟨C, 0, none⟩) := h4 10 84 (by kernel_rfl) (by kernel_rfl)
          clear h4 h5 hg
          unfold OpY
          go_simp
          first | exact ⟨rfl, HJ.out.put (i := 11) (by decide) (by decide) hl (ext_refl _)⟩ | exact ⟨Or.inr rfl, HJ.out.put (i := 11) (by decide) (by decide) hl (ext_refl _)⟩
        · refine ⟨(fun g b h => by cases h), fun l w' hl hdp hJ hg ρ h1 h2 h3 h4 h5 => ?_⟩
          have HJ := hid hJ
          clear hJ
          have f85 : ρ (.tmp 85) = .pointer (some ⟨C, 17, none⟩) := h4 11 85 (by kernel_rfl) (by kernel_rfl)
          have f83 : ρ (.tmp 83) = .int .i64 ((q : Int)) := h4 9 83 (by kernel_rfl) (by kernel_rfl)
          clear h4 h5 hg
          unfold OpY
          go_simp
          first | exact ⟨rfl, HJ.out.put (i := 12) (by decide) (by decide) hl (ext_refl _)⟩ | exact ⟨Or.inr rfl, HJ.out.put (i := 12) (by decide) (by decide) hl (ext_refl _)⟩
        · refine ⟨(fun g b h => by cases h), fun l w' hl hdp hJ hg ρ h1 h2 h3 h4 h5 => ?_⟩
          have HJ := hid hJ
          clear hJ
          have f86 : ρ (.tmp 86) = .pointer (some ⟨C, 17 + q, none⟩) := h4 12 86 (by kernel_rfl) (by kernel_rfl)
          have c := (HBC.out.below HJ.out.be).cell (17 + q) (cdr_x T V S c HQ32.out)
          clear h4 h5 hg
          unfold OpY
          go_simp
          first | exact ⟨rfl, HJ.out.put (i := 13) (by decide) (by decide) hl (ext_refl _)⟩ | exact ⟨Or.inr rfl, HJ.out.put (i := 13) (by decide) (by decide) hl (ext_refl _)⟩
        · refine ⟨(fun g b h => by cases h), fun l w' hl hdp hJ hg ρ h1 h2 h3 h4 h5 => ?_⟩
          have HJ := hid hJ
          clear hJ
          have f80 : ρ (.tmp 80) = .int .i64 x := h4 6 80 (by kernel_rfl) (by kernel_rfl)
          have f87 : ρ (.tmp 87) = .int .i64 (c.x (q : Int)) := h4 13 87 (by kernel_rfl) (by kernel_rfl)
          clear h4 h5 hg
          unfold OpY
          go_simp
          first | exact ⟨rfl, HJ.out.put (i := 14) (by decide) (by decide) hl (ext_refl _)⟩ | exact ⟨Or.inr rfl, HJ.out.put (i := 14) (by decide) (by decide) hl (ext_refl _)⟩
        · refine ⟨(fun g b h => by cases h), fun l w' hl hdp hJ hg ρ h1 h2 h3 h4 h5 => ?_⟩
          have HJ := hid hJ
          clear hJ
          have f88 : ρ (.tmp 88) = .int .i64 d := h4 14 88 (by kernel_rfl) (by kernel_rfl)
          clear h4 h5 hg
          unfold OpY
          go_simp
          unfold OpR
          refine (HZG.out w').mono ?_
          rintro e' w'' ⟨rfl, rfl⟩
          first | exact ⟨_, rfl, rfl, HJ.out.put (i := 15) (by decide) (by decide) hl (ext_refl _)⟩ | exact ⟨_, rfl, Or.inr rfl, HJ.out.put (i := 15) (by decide) (by decide) hl (ext_refl _)⟩
        · refine ⟨(fun g b h => by cases h), fun l w' hl hdp hJ hg ρ h1 h2 h3 h4 h5 => ?_⟩
          have HJ := hid hJ
          clear hJ
          have f89 : ρ (.tmp 89) = .int .u64 (zigZ d : Int) := h4 15 89 (by kernel_rfl) (by kernel_rfl)
          clear h4 h5 hg
          unfold OpY
          go_simp
          unfold OpR
          refine (HN2.out w').mono ?_
          rintro e' w'' ⟨rfl, hb⟩
          first | exact ⟨_, rfl, rfl, HJ.out.put (i := 16) (by decide) (by decide) hl hb⟩ | exact ⟨_, rfl, Or.inr rfl, HJ.out.put (i := 16) (by decide) (by decide) hl hb⟩
        · refine ⟨(fun g b h => by cases h), fun l w' hl hdp hJ hg ρ h1 h2 h3 h4 h5 => ?_⟩
          have HJ := hid hJ
          clear hJ
          have f78 : ρ (.tmp 78) = .string (s0 ++ s1) := h4 4 78 (by kernel_rfl) (by kernel_rfl)
          have f90 : ρ (.tmp 90) = .string s2 := h4 16 90 (by kernel_rfl) (by kernel_rfl)
          clear h4 h5 hg
          unfold OpY
          go_simp
          first | exact ⟨rfl, HJ.out.put (i := 17) (by decide) (by decide) hl (ext_refl _)⟩ | exact ⟨Or.inr rfl, HJ.out.put (i := 17) (by decide) (by decide) hl (ext_refl _)⟩
        · refine ⟨(fun g b h => by cases h), fun l w' hl hdp hJ hg ρ h1 h2 h3 h4 h5 => ?_⟩
          have HJ := hid hJ
          clear hJ
          have f91 : ρ (.tmp 91) = .string (s0 ++ s1 ++ s2) := h4 17 91 (by kernel_rfl) (by kernel_rfl)
          have hall : ∀ q, q < 19 → q ≠ 18 → l q = true := all_last (by kernel_rfl) hdp
          have HALL := hid hall
          clear hall h4 h5 hg
          unfold OpY
          go_simp
          first | exact ⟨rfl, HJ.out.last HALL.out⟩ | exact ⟨Or.inr rfl, HJ.out.last HALL.out⟩
      case hdone =>
        intro w3 hJ
        have HB3 := hid (ext_trans HB2.out hJ.be)
        clear hJ
        go_wp2_with fail
        rw [HQ.out]
        refine ⟨?_, HB3.out⟩
        have hn : numsC c ⟨8, (th : Int), tx, (q : Int), v, x, why⟩ = [(q : Int).toNat, zigZ d] := (by rw [HD.out]; rfl)
        have hby : bytesC T c ⟨8, (th : Int), tx, (q : Int), v, x, why⟩ = putN (p + r).toNat ++ putN ((q : Int).toNat) ++ putN (zigZ d) := by
          unfold bytesC
          rw [HFI.out, hn]
          simp
        rw [hby, bstr_app, bstr_app, ← HS0.out, ← HS1.out, ← HS2.out]
        rfl
    · subst hk
      have HN1 := hid (fun W => rnum_i (at_) W (by have := HF.out; omega))
      obtain ⟨s1, hs1⟩ : ∃ q, q = bstr (putN (at_).toNat) := ⟨_, rfl⟩
      rw [← hs1] at HN1
      have z1 : s1.size ≤ 10 := by rw [hs1]; exact putN10 _
      have HS1 := hid hs1
      clear hs1
      have y3 := HBE.out.cell 3 (v := .int .i64 at_) rfl
      obtain ⟨n1, n2, n3⟩ := add_no (a := s0) (b := s1) (by omega) (by omega)
      clear n3
      go_wp2_with fail
      refine (HN1.out _).mono ?_
      rintro e' w3 ⟨rfl, hb3⟩
      have HB3 := hid (ext_trans HB2.out hb3)
      clear hb3
      go_wp2_with fail
      rw [HQ.out]
      refine ⟨?_, HB3.out⟩
      have hn : numsC c ⟨9, (th : Int), tx, at_, v, x, why⟩ = [at_.toNat] := rfl
      have hby : bytesC T c ⟨9, (th : Int), tx, at_, v, x, why⟩ = putN (p + r).toNat ++ putN (at_.toNat) := by
        unfold bytesC
        rw [HFI.out, hn]
        simp
      rw [hby, bstr_app, ← HS0.out, ← HS1.out]
      rfl
    · subst hk
      have HN1 := hid (fun W => rnum_i (why - 1) W (by have := HWY.out rfl; omega))
      obtain ⟨s1, hs1⟩ : ∃ q, q = bstr (putN (why - 1).toNat) := ⟨_, rfl⟩
      rw [← hs1] at HN1
      have z1 : s1.size ≤ 10 := by rw [hs1]; exact putN10 _
      have HS1 := hid hs1
      clear hs1
      have y6 := HBE.out.cell 6 (v := .int .u8 why) rfl
      have j0 : IntKind.i64.wrap why = why := IntWalk.i64_in _ (by have := HWY.out rfl; omega)
      have j1 : IntKind.i64.wrap (why - 1) = why - 1 := IntWalk.i64_in _ (by have := HWY.out rfl; omega)
      obtain ⟨n1, n2, n3⟩ := add_no (a := s0) (b := s1) (by omega) (by omega)
      go_wp2_with fail
      refine (HN1.out _).mono ?_
      rintro e' w3 ⟨rfl, hb3⟩
      have HB3 := hid (ext_trans HB2.out hb3)
      have HBE3 := hid (HBE.out.below hb3)
      have y6 := HBE3.out.cell 6 (v := .int .u8 why) rfl
      have y3 := HBE3.out.cell 3 (v := .int .i64 at_) rfl
      clear hb3
      by_cases hv : why = 6
      · have g1 : (why != 6) = false := by simp [hv]
        have g2 : decide (why = 6) = true := by simp [hv]
        have HV := hid hv
        clear hv n3
        go_wp2_with fail
        rw [HQ.out]
        refine ⟨?_, HB3.out⟩
        have hn : numsC c ⟨10, (th : Int), tx, at_, v, x, why⟩ = [(why - 1).toNat] := (by show (why - 1).toNat :: (if why = 6 then [] else [at_.toNat]) = _; rw [if_pos HV.out])
        have hby : bytesC T c ⟨10, (th : Int), tx, at_, v, x, why⟩ = putN (p + r).toNat ++ putN ((why - 1).toNat) := by
          unfold bytesC
          rw [HFI.out, hn]
          simp
        rw [hby, bstr_app, ← HS0.out, ← HS1.out]
        rfl
      · have g1 : (why != 6) = true := by simp [hv]
        have g2 : decide (why = 6) = false := by simp [hv]
        have HV := hid hv
        clear hv
        have HN2 := hid (fun W => rnum_i (at_) W (by have := HF.out; omega))
        obtain ⟨s2, hs2⟩ : ∃ q, q = bstr (putN (at_).toNat) := ⟨_, rfl⟩
        rw [← hs2] at HN2
        have z2 : s2.size ≤ 10 := by rw [hs2]; exact putN10 _
        have HS2 := hid hs2
        clear hs2
        have n4 : ¬ (9223372036854775807 < s0.size + s1.size + s2.size) := by omega
        clear n3
        go_wp2_with fail
        refine (HN2.out _).mono ?_
        rintro e' w4 ⟨rfl, hb4⟩
        have HB4 := hid (ext_trans HB3.out hb4)
        clear hb4
        go_wp2_with fail
        rw [HQ.out]
        refine ⟨?_, HB4.out⟩
        have hn : numsC c ⟨10, (th : Int), tx, at_, v, x, why⟩ = [(why - 1).toNat, at_.toNat] := (by show (why - 1).toNat :: (if why = 6 then [] else [at_.toNat]) = _; rw [if_neg HV.out])
        have hby : bytesC T c ⟨10, (th : Int), tx, at_, v, x, why⟩ = putN (p + r).toNat ++ putN ((why - 1).toNat) ++ putN (at_.toNat) := by
          unfold bytesC
          rw [HFI.out, hn]
          simp
        rw [hby, bstr_app, bstr_app, ← HS0.out, ← HS1.out, ← HS2.out]
        rfl
    · subst hk
      have HN1 := hid (fun W => rnum_i (at_) W (by have := HF.out; omega))
      obtain ⟨s1, hs1⟩ : ∃ q, q = bstr (putN (at_).toNat) := ⟨_, rfl⟩
      rw [← hs1] at HN1
      have z1 : s1.size ≤ 10 := by rw [hs1]; exact putN10 _
      have HS1 := hid hs1
      clear hs1
      have y3 := HBE.out.cell 3 (v := .int .i64 at_) rfl
      obtain ⟨n1, n2, n3⟩ := add_no (a := s0) (b := s1) (by omega) (by omega)
      clear n3
      go_wp2_with fail
      refine (HN1.out _).mono ?_
      rintro e' w3 ⟨rfl, hb3⟩
      have HB3 := hid (ext_trans HB2.out hb3)
      clear hb3
      go_wp2_with fail
      rw [HQ.out]
      refine ⟨?_, HB3.out⟩
      have hn : numsC c ⟨11, (th : Int), tx, at_, v, x, why⟩ = [at_.toNat] := rfl
      have hby : bytesC T c ⟨11, (th : Int), tx, at_, v, x, why⟩ = putN (p + r).toNat ++ putN (at_.toNat) := by
        unfold bytesC
        rw [HFI.out, hn]
        simp
      rw [hby, bstr_app, ← HS0.out, ← HS1.out]
      rfl
    · subst hk
      go_wp2_with fail
      rw [HQ.out]
      refine ⟨?_, HB2.out⟩
      have hn : numsC c ⟨12, (th : Int), tx, at_, v, x, why⟩ = [] := rfl
      have hby : bytesC T c ⟨12, (th : Int), tx, at_, v, x, why⟩ = putN (p + r).toNat := by
        unfold bytesC
        rw [HFI.out, hn]
        simp
      rw [hby, ← HS0.out]
    · subst hk
      go_wp2_with fail
      rw [HQ.out]
      refine ⟨?_, HB2.out⟩
      have hn : numsC c ⟨13, (th : Int), tx, at_, v, x, why⟩ = [] := rfl
      have hby : bytesC T c ⟨13, (th : Int), tx, at_, v, x, why⟩ = putN (p + r).toNat := by
        unfold bytesC
        rw [HFI.out, hn]
        simp
      rw [hby, ← HS0.out]
end Go.Proofs.YtokkafiphchejaaDoor
