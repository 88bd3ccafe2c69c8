/-
  Walk: (*Reader).End.
-/
import Derived.Test.YtokkafiphchejaaDoorDeG1
namespace Go.Proofs.YtokkafiphchejaaDoor
set_option linter.unusedVariables false
set_option linter.unusedSimpArgs false
set_option linter.unusedVariables false
open Go Go.RowKit
/-- What a reader is when its end was asked. -/
def endR (r : Rdr) : Rdr := if r.err ≠ 0 then r else if r.at_ < r.s.length then { r with err := 10 } else r
set_option maxRecDepth 100000 in
set_option maxHeartbeats 4000000 in
theorem end1_yes (s : ByteArray) (w : World) (hs : s.size = 0) : Calls Tryd.prog 55 #[.string s] w fun e' w' => e' = .returned (.tuple #[.bool true, .int .i64 0, .int .i64 0]) ∧ w = w' := by
  have h1 : s = ⟨#[]⟩ := byt_inj (List.eq_nil_of_length_eq_zero (by rw [byt_len]; exact hs))
  subst h1
  clear hs
  go_enter Tryd.func55, Tryd.ntmps55
  go_wp2_with fail
  exact bodyPost_ret (v := .tuple #[.bool true, .int .i64 0, .int .i64 0]) (by simp [results, Tryd.results55, go_sem]) rfl ⟨rfl, rfl⟩
set_option maxRecDepth 100000 in
set_option maxHeartbeats 4000000 in
theorem end1_no (s : ByteArray) (w : World) (hs : s.size ≠ 0) : Calls Tryd.prog 55 #[.string s] w fun e' w' => e' = .returned (.tuple #[.bool false, .int .i64 0, .int .i64 10]) ∧ w = w' := by
  have h1 : s.toList ≠ [] := by
    intro h
    rw [ByteArray.toList_eq] at h
    apply hs
    rw [← byt_len]; unfold byt; rw [h]; rfl
  have h2 : (s.toList == []) = false := by rw [beq_eq_false_iff_ne]; exact h1
  have h3 : (s.toList != []) = true := by rw [bne_iff_ne]; exact h1
  clear hs
  go_enter Tryd.func55, Tryd.ntmps55
  go_wp2_with fail
  exact bodyPost_ret (v := .tuple #[.bool false, .int .i64 0, .int .i64 10]) (by simp [results, Tryd.results55, go_sem]) rfl ⟨rfl, rfl⟩
def EndP (b : Nat) (s : ByteArray) (r : Rdr) (w : World) (e' : Ending) (w' : World) : Prop :=
  (∃ x, e' = .returned (.tuple #[.bool x, .int .i64 (r.err : Int)])) ∧ RdrAt w' b s r.at_ r.err ∧ Turn [b] w w'
set_option maxRecDepth 100000 in
set_option maxHeartbeats 4000000 in
theorem readb_any (b : Nat) (s : ByteArray) (at_ e : Nat) (w : World) (h : RdrAt w b s at_ e) (hs : s.size ≤ 16777216) (ha : at_ ≤ s.size) : Calls Tryd.prog 54 #[.pointer (some ⟨b, 0, none⟩), .func (.func 55) #[] #[]] w (EndP b s (endR ⟨byt s, at_, e⟩) w) := by
  have c0 : w.cell? ⟨b, 0, none⟩ = some (.string s) := Blk.cell h 0 rfl
  have c1 : w.cell? ⟨b, 1, none⟩ = some (.int .i64 (at_ : Int)) := Blk.cell h 1 rfl
  have c2 : w.cell? ⟨b, 2, none⟩ = some (.int .i64 (e : Int)) := Blk.cell h 2 rfl
  have z1 := Blk.free h 1
  have z2 := Blk.free h 2
  have HH := hid h
  have g0 : (0 : Int) ≤ (at_ : Int) := by omega
  have g1 : (at_ : Int) ≤ (s.size : Int) := by omega
  have g2 : at_ ≤ s.size := ha
  by_cases he : e = 0
  · subst he
    by_cases hl : at_ < s.size
    · have HE := hid (fun (w' : World) => (end1_no (s.extract at_ s.size) w' (by simp; omega)).mono fun e' w'' hh => And.intro hh.1 hh.2.symm)
      have hf : endR ⟨byt s, at_, 0⟩ = ⟨byt s, at_, 10⟩ := by unfold endR; dsimp only; rw [if_neg (by simp), if_pos (by rw [byt_len]; exact hl)]
      rw [hf]
      obtain ⟨Q, hQ⟩ : ∃ Q, Q = EndP b s ⟨byt s, at_, 10⟩ w := ⟨_, rfl⟩
      rw [← hQ]
      have HQ := hid hQ
      clear h hs ha hl hf hQ
      go_enter Tryd.func54, Tryd.ntmps54
      go_wp2_with fail
      go_quiet (exact Calls.quiet_of_same (HE.out _))
      go_wp2_with fail
      rw [HQ.out]
      refine ⟨⟨_, rfl⟩, ?_, ((Turn.refl _ _).drewN _).setCell (Or.inl (by simp)) _⟩
      have := (HH.out.below (ext_drewN (ext_refl _) nq)).set 2 (.int .i64 10)
      exact this
    · have HE := hid (fun (w' : World) => (end1_yes (s.extract at_ s.size) w' (by simp; omega)).mono fun e' w'' hh => And.intro hh.1 hh.2.symm)
      have hf : endR ⟨byt s, at_, 0⟩ = ⟨byt s, at_, 0⟩ := by unfold endR; dsimp only; rw [if_neg (by simp), if_neg (by rw [byt_len]; exact hl)]
      rw [hf]
      have j1 : IntKind.i64.wrap ((at_ : Int) + 0) = (at_ : Int) := by rw [Int.add_zero]; exact IntWalk.i64_in _ (by omega)
      have j2 : IntKind.i64.wrap (at_ : Int) = (at_ : Int) := IntWalk.i64_in _ (by omega)
      have j3 : wrap64 (at_ : Int) = (at_ : Int) := by unfold wrap64; omega
      obtain ⟨Q, hQ⟩ : ∃ Q, Q = EndP b s ⟨byt s, at_, 0⟩ w := ⟨_, rfl⟩
      rw [← hQ]
      have HQ := hid hQ
      clear h hs ha hl hf hQ
      go_enter Tryd.func54, Tryd.ntmps54
      go_wp2_with fail
      go_quiet (exact Calls.quiet_of_same (HE.out _))
      go_wp2_with fail
      rw [HQ.out]
      refine ⟨⟨_, rfl⟩, ?_, ((Turn.refl _ _).drewN _).setCell (Or.inl (by simp)) _⟩
      have := (HH.out.below (ext_drewN (ext_refl _) nq)).set 1 (.int .i64 (at_ : Int))
      exact this
  · have j1 : ((e : Int) == 0) = false := beq_eq_false_iff_ne.2 (by omega)
    have j2 : (e == 0) = false := beq_eq_false_iff_ne.2 he
    have j3 : ((e : Int) != 0) = true := bne_iff_ne.2 (by omega)
    have j4 : (e != 0) = true := bne_iff_ne.2 he
    have hf : endR ⟨byt s, at_, e⟩ = ⟨byt s, at_, e⟩ := by unfold endR; dsimp only; rw [if_pos he]
    rw [hf]
    obtain ⟨Q, hQ⟩ : ∃ Q, Q = EndP b s ⟨byt s, at_, e⟩ w := ⟨_, rfl⟩
    rw [← hQ]
    have HQ := hid hQ
    clear h hs ha hf hQ he
    go_enter Tryd.func54, Tryd.ntmps54
    go_wp2_with fail
    go_quiet (fail)
    go_wp2_with fail
    rw [HQ.out]
    exact ⟨⟨_, rfl⟩, HH.out.below (ext_drewN (ext_refl _) _), (Turn.refl _ _).drewN _⟩
set_option maxRecDepth 100000 in
set_option maxHeartbeats 4000000 in
theorem rend_any (b : Nat) (s : ByteArray) (at_ e : Nat) (w : World) (h : RdrAt w b s at_ e) (hs : s.size ≤ 16777216) (ha : at_ ≤ s.size) : Calls Tryd.prog 28 #[.pointer (some ⟨b, 0, none⟩)] w fun e' w' => e' = .returned (.int .i64 ((endR ⟨byt s, at_, e⟩).err : Int)) ∧ RdrAt w' b s (endR ⟨byt s, at_, e⟩).at_ (endR ⟨byt s, at_, e⟩).err ∧ Turn [b] w w' := by
  have HR := hid (readb_any b s at_ e w h hs ha)
  generalize endR ⟨byt s, at_, e⟩ = r at HR ⊢
  obtain ⟨Q, hQ⟩ : ∃ Q : Ending → World → Prop, Q = fun e' w' => e' = .returned (.int .i64 (r.err : Int)) ∧ RdrAt w' b s r.at_ r.err ∧ Turn [b] w w' := ⟨_, rfl⟩
  rw [← hQ]
  have HQ := hid hQ
  clear h hs ha hQ
  go_enter Tryd.func28, Tryd.ntmps28
  go_wp2_with fail
  refine HR.out.mono ?_
  rintro e' w2 ⟨⟨x, rfl⟩, hra, hT⟩
  go_wp2_with fail
  rw [HQ.out]
  exact ⟨rfl, hra, hT⟩
end Go.Proofs.YtokkafiphchejaaDoor
