/-
  Joined texts: DeR1 DeR2 DeR3 DeR4 DrA.
-/
import Derived.Test.YtokkafiphchejaaDoorDeGW
import Derived.Test.YtokkafiphchejaaDoorTurn
import Derived.Test.YtokkafiphchejaaDoorDeG0
import Derived.Test.YtokkafiphchejaaDoorDeL4
/-
  Walk: read of a number, where nothing was wrong ahead.
-/
namespace Go.Proofs.YtokkafiphchejaaDoor
set_option linter.unusedVariables false
set_option linter.unusedSimpArgs false
set_option linter.unusedVariables false
open Go Go.RowKit
theorem byt_from (s : ByteArray) (a : Nat) : byt (s.extract a s.size) = (byt s).drop a := by
  unfold byt
  rw [ByteArray.data_extract, Array.toList_extract, List.map_take, List.map_drop]
  rw [List.take_of_length_le]
  simp
/-- What a read of a number tells. -/
def ReadP (b : Nat) (s : ByteArray) (r : Nat × Rdr) (w : World) (e' : Ending) (w' : World) : Prop :=
  e' = .returned (.tuple #[.int .u64 (r.1 : Int), .int .i64 (r.2.err : Int)]) ∧ RdrAt w' b s r.2.at_ r.2.err ∧ Turn [b] w w'
theorem num_wrong {s : List Nat} {at_ most n size er : Nat} (hg : getN (s.drop at_) = (n, size, er)) (h : (if er = 0 ∧ most < n then 20 else er) ≠ 0) : numR ⟨s, at_, 0⟩ most = (0, ⟨s, at_, if er = 0 ∧ most < n then 20 else er⟩) := by
  unfold numR
  dsimp only
  rw [if_neg (by omega), hg]
  dsimp only
  by_cases he : er = 0
  · subst he
    by_cases hn : most < n
    · rw [if_neg (by omega), if_pos hn, if_pos ⟨rfl, hn⟩]
    · rw [if_neg (fun h => hn h.2)] at h; omega
  · rw [if_pos he, if_neg (fun h => he h.1)]
theorem num_fine {s : List Nat} {at_ most n size er : Nat} (hg : getN (s.drop at_) = (n, size, er)) (h : (if er = 0 ∧ most < n then 20 else er) = 0) : numR ⟨s, at_, 0⟩ most = (n, ⟨s, at_ + size, 0⟩) ∧ er = 0 := by
  by_cases he : er = 0
  · subst he
    by_cases hn : most < n
    · rw [if_pos ⟨rfl, hn⟩] at h; cases h
    · refine ⟨?_, rfl⟩
      unfold numR
      dsimp only
      rw [if_neg (by omega), hg]
      dsimp only
      rw [if_neg (by omega), if_neg hn]
  · rw [if_neg (fun h => he h.1)] at h; exact absurd h he
set_option maxRecDepth 100000 in
set_option maxHeartbeats 4000000 in
theorem read64_ok (b p : Nat) (s : ByteArray) (at_ most : Nat) (w : World) (h : RdrAt w b s at_ 0) (hp : w.cell? ⟨p, 0, none⟩ = some (.int .u64 (most : Int))) (hs : s.size ≤ 16777216) (ha : at_ ≤ s.size) : Calls Tryd.prog 68 #[.pointer (some ⟨b, 0, none⟩), .func (.func 69) #[] #[.pointer (some ⟨p, 0, none⟩)]] w (ReadP b s (numR ⟨byt s, at_, 0⟩ most) w) := by
  have c0 : w.cell? ⟨b, 0, none⟩ = some (.string s) := Blk.cell h 0 rfl
  have c1 : w.cell? ⟨b, 1, none⟩ = some (.int .i64 (at_ : Int)) := Blk.cell h 1 rfl
  have c2 : w.cell? ⟨b, 2, none⟩ = some (.int .i64 0) := Blk.cell h 2 rfl
  have z1 := Blk.free h 1
  have z2 := Blk.free h 2
  have HNUM := hid (fun (w' : World) (h : w'.cell? ⟨p, 0, none⟩ = some (.int .u64 (most : Int))) => (num1_any (s.extract at_ s.size) most p w' h (by simp; omega)).mono fun e' w'' hh => And.intro hh.1 hh.2.symm)
  unfold num1E at HNUM
  rw [byt_from] at HNUM
  obtain ⟨n, size, er, hg⟩ : ∃ n size er, getN ((byt s).drop at_) = (n, size, er) := ⟨_, _, _, rfl⟩
  have hsz : er = 0 → at_ + size ≤ s.size := fun h0 => by
    subst h0
    have := (put_get (fun c hc => byt_lt s c (List.mem_of_mem_drop hc)) hg).2.2.2
    rw [List.length_drop, byt_len] at this
    omega
  rw [hg] at HNUM
  dsimp only at HNUM
  have HH := hid h
  have g0 : (0 : Int) ≤ (at_ : Int) := by omega
  have g1 : (at_ : Int) ≤ (s.size : Int) := by omega
  have g2 : at_ ≤ s.size := ha
  have HS := hid hs
  have HP := hid hp
  obtain ⟨E, hE⟩ : ∃ E, E = (if er = 0 ∧ most < n then 20 else er) := ⟨_, rfl⟩
  rw [← hE] at HNUM
  by_cases h0 : E = 0
  · obtain ⟨hn, he⟩ := num_fine (most := most) hg (by rw [← hE]; exact h0)
    rw [hn]
    have hz := hsz he
    have j1 : IntKind.i64.wrap ((at_ : Int) + (size : Int)) = (at_ : Int) + (size : Int) := IntWalk.i64_in _ (by omega)
    subst h0
    have HG := hid hg
    obtain ⟨Q, hQ⟩ : ∃ Q, Q = ReadP b s (n, ⟨byt s, at_ + size, 0⟩) w := ⟨_, rfl⟩
    rw [← hQ]
    have HQ := hid hQ
    clear h hs ha hg hsz hn hz hE he hp hQ
    go_enter Tryd.func68, Tryd.ntmps68
    go_wp2_with fail
    go_quiet (exact Calls.quiet_of_same (HNUM.out _ HP.out))
    go_wp2_with fail
    rw [HQ.out]
    refine ⟨rfl, ?_, ((Turn.refl _ _).drewN _).setCell (Or.inl (by simp)) _⟩
    have := (HH.out.below (ext_drewN (ext_refl _) nq)).set 1 (.int .i64 ((at_ : Int) + (size : Int)))
    exact this
  · have hn := num_wrong (most := most) hg (by rw [← hE]; exact h0)
    rw [← hE] at hn
    rw [hn]
    have j1 : ((E : Int) == 0) = false := beq_eq_false_iff_ne.2 (by omega)
    have j2 : (E == 0) = false := beq_eq_false_iff_ne.2 h0
    have j3 : ((E : Int) != 0) = true := bne_iff_ne.2 (by omega)
    have j4 : (E != 0) = true := bne_iff_ne.2 h0
    obtain ⟨Q, hQ⟩ : ∃ Q, Q = ReadP b s (0, ⟨byt s, at_, E⟩) w := ⟨_, rfl⟩
    rw [← hQ]
    have HQ := hid hQ
    clear h hs ha hg hsz hn hE hp hQ h0
    go_enter Tryd.func68, Tryd.ntmps68
    go_wp2_with fail
    go_quiet (exact Calls.quiet_of_same (HNUM.out _ HP.out))
    go_wp2_with fail
    rw [HQ.out]
    refine ⟨rfl, ?_, ((Turn.refl _ _).drewN _).setCell (Or.inl (by simp)) _⟩
    have := (HH.out.below (ext_drewN (ext_refl _) nq)).set 2 (.int .i64 (E : Int))
    exact this
theorem read64_any (b p : Nat) (s : ByteArray) (at_ e most : Nat) (w : World) (h : RdrAt w b s at_ e) (hp : w.cell? ⟨p, 0, none⟩ = some (.int .u64 (most : Int))) (hs : s.size ≤ 16777216) (ha : at_ ≤ s.size) : Calls Tryd.prog 68 #[.pointer (some ⟨b, 0, none⟩), .func (.func 69) #[] #[.pointer (some ⟨p, 0, none⟩)]] w (ReadP b s (numR ⟨byt s, at_, e⟩ most) w) := by
  by_cases he : e = 0
  · subst he; exact read64_ok b p s at_ most w h hp hs ha
  · have : numR ⟨byt s, at_, e⟩ most = (0, ⟨byt s, at_, e⟩) := by unfold numR; dsimp only; rw [if_pos he]
    rw [this]
    exact (read64_err b s at_ e _ w h he).mono fun e' w' hh => ⟨hh.1, h.below hh.2, Turn.of_below hh.2⟩
end Go.Proofs.YtokkafiphchejaaDoor
/-
  Walks: a reader's Num, Int, Fail; Zag.
-/
namespace Go.Proofs.YtokkafiphchejaaDoor
set_option linter.unusedVariables false
set_option linter.unusedSimpArgs false
set_option linter.unusedVariables false
open Go Go.RowKit
set_option maxRecDepth 100000 in
set_option maxHeartbeats 4000000 in
theorem rnum_any (b : Nat) (s : ByteArray) (at_ e most : Nat) (w : World) (h : RdrAt w b s at_ e) (hs : s.size ≤ 16777216) (ha : at_ ≤ s.size) (hm : most ≤ 18446744073709551615) : Calls Tryd.prog 43 #[.pointer (some ⟨b, 0, none⟩), .int .u64 (most : Int)] w (ReadP b s (numR ⟨byt s, at_, e⟩ most) w) := by
  obtain ⟨W1, hW1⟩ : ∃ W1, W1 = w.alloc (.cells #[.int .u64 (most : Int)] 85) := ⟨_, rfl⟩
  have hb1 : Below w.heap.size w W1 := by rw [hW1]; exact ext_alloc (ext_refl _) _
  have hbp : Blk W1 w.heap.size #[.int .u64 (most : Int)] 85 := by rw [hW1]; exact Blk.new _ _ _
  have HR := hid (read64_any b w.heap.size s at_ e most W1 (h.below hb1) (hbp.cell 0 rfl) hs ha)
  have HB1 := hid hb1
  have HW1 := hid hW1
  obtain ⟨r, hr⟩ : ∃ r, r = numR ⟨byt s, at_, e⟩ most := ⟨_, rfl⟩
  rw [← hr] at HR ⊢
  obtain ⟨Q, hQ⟩ : ∃ Q, Q = ReadP b s r w := ⟨_, rfl⟩
  rw [← hQ]
  have HQ := hid hQ
  clear h hb1 hbp hs ha hm hr hW1 hQ
  go_enter Tryd.func43, Tryd.ntmps43
  go_wp2_with fail
  rw [← HW1.out]
  refine HR.out.mono ?_
  rintro e' w2 ⟨rfl, hra, hT⟩
  go_wp2_with fail
  rw [HQ.out]
  exact ⟨rfl, hra, (Turn.of_below HB1.out).trans hT⟩
set_option maxRecDepth 100000 in
set_option maxHeartbeats 4000000 in
theorem rfail_any (b : Nat) (s : ByteArray) (at_ e place : Nat) (w : World) (h : RdrAt w b s at_ e) (hp : place ≤ at_) : Calls Tryd.prog 47 #[.pointer (some ⟨b, 0, none⟩), .int .i64 (place : Int), .int .i64 20] w fun e' w' => (∃ v, e' = .returned v) ∧ RdrAt w' b s (failR ⟨byt s, at_, e⟩ place).at_ (failR ⟨byt s, at_, e⟩ place).err ∧ Turn [b] w w' := by
  have HH := hid h
  have c1 : w.cell? ⟨b, 1, none⟩ = some (.int .i64 (at_ : Int)) := Blk.cell h 1 rfl
  have c2 : w.cell? ⟨b, 2, none⟩ = some (.int .i64 (e : Int)) := Blk.cell h 2 rfl
  have z1 := Blk.free h 1
  have z2 := Blk.free (Blk.set h 1 (.int .i64 (place : Int))) 2
  have z3 := Blk.cell (Blk.set h 1 (.int .i64 (place : Int))) 2 (v := .int .i64 (e : Int)) rfl
  by_cases he : e = 0
  · subst he
    have g1 : decide ((place : Int) < 0) = false := decide_eq_false (by omega)
    have g2 : decide ((at_ : Int) < (place : Int)) = false := decide_eq_false (by omega)
    have g3 : decide (at_ < place) = false := decide_eq_false (by omega)
    have hf : failR ⟨byt s, at_, 0⟩ place = ⟨byt s, place, 20⟩ := rfl
    rw [hf]
    obtain ⟨Q, hQ⟩ : ∃ Q : Ending → World → Prop, Q = fun e' w' => (∃ v, e' = .returned v) ∧ RdrAt w' b s place 20 ∧ Turn [b] w w' := ⟨_, rfl⟩
    rw [← hQ]
    have HQ := hid hQ
    clear h hp hf hQ
    go_enter Tryd.func47, Tryd.ntmps47
    go_wp2_with fail
    rw [HQ.out]
    exact ⟨⟨_, rfl⟩, (Blk.set HH.out 1 _).set 2 _, ((Turn.refl _ _).setCell (Or.inl (by simp)) _).setCell (Or.inl (by simp)) _⟩
  · have j1 : ((e : Int) == 0) = false := beq_eq_false_iff_ne.2 (by omega)
    have j2 : (e == 0) = false := beq_eq_false_iff_ne.2 he
    have j3 : ((e : Int) != 0) = true := bne_iff_ne.2 (by omega)
    have j4 : (e != 0) = true := bne_iff_ne.2 he
    have hf : failR ⟨byt s, at_, e⟩ place = ⟨byt s, at_, e⟩ := by unfold failR; dsimp only; rw [if_pos he]
    rw [hf]
    obtain ⟨Q, hQ⟩ : ∃ Q : Ending → World → Prop, Q = fun e' w' => (∃ v, e' = .returned v) ∧ RdrAt w' b s at_ e ∧ Turn [b] w w' := ⟨_, rfl⟩
    rw [← hQ]
    have HQ := hid hQ
    clear h hp hf hQ he
    go_enter Tryd.func47, Tryd.ntmps47
    go_wp2_with fail
    rw [HQ.out]
    exact ⟨⟨_, rfl⟩, HH.out, Turn.refl _ _⟩
end Go.Proofs.YtokkafiphchejaaDoor
/-
  Walks: Zag, a reader's Int.
-/
namespace Go.Proofs.YtokkafiphchejaaDoor
set_option linter.unusedVariables false
set_option linter.unusedSimpArgs false
set_option linter.unusedVariables false
open Go Go.RowKit
theorem and_one_bits (n : Nat) (hn : n < 18446744073709551616) : bits .and .u64 (n : Int) 1 = ((n % 2 : Nat) : Int) := by
  have hw : ∀ y : Int, IntKind.u64.wrap y = y % 18446744073709551616 := fun y => by simp [IntKind.wrap, IntKind.signed, IntKind.bits]
  show IntKind.u64.wrap (((BitVec.ofInt 64 (n : Int)) &&& (BitVec.ofInt 64 ((1 : Nat) : Int))).toNat : Int) = _
  rw [BitVec.ofInt_natCast, BitVec.ofInt_natCast, BitVec.toNat_and, BitVec.toNat_ofNat, BitVec.toNat_ofNat, Nat.mod_eq_of_lt (by omega : n < 2 ^ 64), Nat.mod_eq_of_lt (by omega : 1 < 2 ^ 64), Nat.and_one_is_mod, hw]
  omega
theorem zag_bits (n : Nat) (hn : n < 18446744073709551616) : bits .xor .i64 ((n : Int) / 2) (wrap64 (-wrap64 (bits .and .u64 (n : Int) 1))) = zagZ n := by
  rw [and_one_bits n hn]
  have hh : (n : Int) / 2 = ((n / 2 : Nat) : Int) := by omega
  rw [hh]
  unfold zagZ
  by_cases h0 : n % 2 = 0
  · rw [if_pos h0, h0]
    have e : wrap64 (-wrap64 ((0 : Nat) : Int)) = ((0 : Nat) : Int) := by unfold wrap64; omega
    rw [e]
    show IntKind.i64.wrap (((BitVec.ofInt 64 ((n / 2 : Nat) : Int)) ^^^ (BitVec.ofInt 64 ((0 : Nat) : Int))).toNat : Int) = _
    rw [BitVec.ofInt_natCast, BitVec.ofInt_natCast, BitVec.toNat_xor, BitVec.toNat_ofNat, BitVec.toNat_ofNat, Nat.mod_eq_of_lt (by omega : n / 2 < 2 ^ 64), Nat.zero_mod, Nat.xor_zero]
    exact IntWalk.i64_in _ (by omega)
  · rw [if_neg h0, show n % 2 = 1 by omega]
    have e : wrap64 (-wrap64 ((1 : Nat) : Int)) = -1 := by unfold wrap64; omega
    rw [e]
    have hx2 := xor_ones 64 (n / 2) (by omega)
    have h1 : BitVec.ofInt 64 (-1) = BitVec.ofNat 64 (2 ^ 64 - 1) := by decide
    show IntKind.i64.wrap (((BitVec.ofInt 64 ((n / 2 : Nat) : Int)) ^^^ (BitVec.ofInt 64 (-1))).toNat : Int) = _
    rw [h1, BitVec.ofInt_natCast, BitVec.toNat_xor, BitVec.toNat_ofNat, BitVec.toNat_ofNat, Nat.mod_eq_of_lt (by omega : n / 2 < 2 ^ 64), Nat.mod_eq_of_lt (by omega : 2 ^ 64 - 1 < 2 ^ 64), hx2]
    have : ((2 ^ 64 - 1 - n / 2 : Nat) : Int) = 18446744073709551616 - 1 - ((n / 2 : Nat) : Int) := by omega
    rw [this]
    simp only [IntKind.wrap, IntKind.signed, IntKind.bits]
    simp
    omega
set_option maxRecDepth 100000 in
set_option maxHeartbeats 4000000 in
theorem zag_any (n : Nat) (w : World) (hn : n < 18446744073709551616) : Calls Tryd.prog 71 #[.int .u64 (n : Int)] w fun e w' => e = .returned (.int .i64 (zagZ n)) ∧ w = w' := by
  go_enter Tryd.func71, Tryd.ntmps71
  go_wp2_with fail
  go_ret
  exact ⟨by rw [← zag_bits n hn]; rfl, rfl⟩
/-- A number that is read is not greater than the bound. -/
theorem numR_le (r : Rdr) (most : Nat) : (numR r most).1 ≤ most := by
  unfold numR
  split
  · exact Nat.zero_le _
  · split
    split
    · exact Nat.zero_le _
    · split
      · exact Nat.zero_le _
      · omega
/-- What holds of a reader. -/
def RdOk (s : ByteArray) (r : Rdr) : Prop := r.s = byt s ∧ r.at_ ≤ s.size
theorem numR_ok {s : ByteArray} {r : Rdr} (h : RdOk s r) (most : Nat) : RdOk s (numR r most).2 ∧ r.at_ ≤ (numR r most).2.at_ := by
  obtain ⟨rs, ra, re⟩ := r
  obtain ⟨h1, h2⟩ := h
  dsimp only at h1 h2
  subst h1
  unfold numR
  dsimp only
  by_cases he : re = 0
  · rw [if_neg (by omega)]
    rcases hg : getN ((byt s).drop ra) with ⟨n, size, er⟩
    dsimp only
    by_cases h0 : er = 0
    · subst h0
      have := (put_get (fun c hc => byt_lt s c (List.mem_of_mem_drop hc)) hg).2.2.2
      rw [List.length_drop, byt_len] at this
      rw [if_neg (by omega)]
      split
      · exact ⟨⟨rfl, h2⟩, Nat.le_refl _⟩
      · exact ⟨⟨rfl, by dsimp only; omega⟩, by dsimp only; omega⟩
    · rw [if_pos h0]
      exact ⟨⟨rfl, h2⟩, Nat.le_refl _⟩
  · rw [if_pos he]
    exact ⟨⟨rfl, h2⟩, Nat.le_refl _⟩
set_option maxRecDepth 100000 in
set_option maxHeartbeats 4000000 in
theorem rint_any (b : Nat) (s : ByteArray) (at_ e : Nat) (w : World) (h : RdrAt w b s at_ e) (hs : s.size ≤ 16777216) (ha : at_ ≤ s.size) : Calls Tryd.prog 45 #[.pointer (some ⟨b, 0, none⟩)] w fun e' w' => (e' = .returned (.tuple #[.int .i64 (zagZ (numR ⟨byt s, at_, e⟩ maxU).1), .int .i64 ((numR ⟨byt s, at_, e⟩ maxU).2.err : Int)]) ∧ RdrAt w' b s (numR ⟨byt s, at_, e⟩ maxU).2.at_ (numR ⟨byt s, at_, e⟩ maxU).2.err ∧ Turn [b] w w') := by
  have HN := hid (rnum_any b s at_ e maxU w h hs ha (by unfold maxU; omega))
  have hle := numR_le ⟨byt s, at_, e⟩ maxU
  obtain ⟨r, hr⟩ : ∃ r, r = numR ⟨byt s, at_, e⟩ maxU := ⟨_, rfl⟩
  rw [← hr] at HN hle ⊢
  have HZ := hid (fun w' => zag_any r.1 w' (by unfold maxU at hle; omega))
  unfold maxU at HN
  clear h hs ha hr hle
  obtain ⟨Q, hQ⟩ : ∃ Q : Ending → World → Prop, Q = fun e' w' => (e' = .returned (.tuple #[.int .i64 (zagZ r.1), .int .i64 (r.2.err : Int)]) ∧ RdrAt w' b s r.2.at_ r.2.err ∧ Turn [b] w w') := ⟨_, rfl⟩
  rw [← hQ]
  have HQ := hid hQ
  clear hQ
  go_enter Tryd.func45, Tryd.ntmps45
  go_wp2_with fail
  refine HN.out.mono ?_
  rintro e' w2 ⟨rfl, hra, hT⟩
  go_wp2_with fail
  refine (HZ.out _).mono ?_
  rintro e' w3 ⟨rfl, rfl⟩
  go_wp2_with fail
  rw [HQ.out]
  exact ⟨rfl, hra, hT⟩
end Go.Proofs.YtokkafiphchejaaDoor
/-
  The reader's closures are as a line asks.
-/
namespace Go.Proofs.YtokkafiphchejaaDoor
set_option linter.unusedVariables false
set_option linter.unusedSimpArgs false
set_option linter.unusedVariables false
open Go Go.RowKit
/-- The reader b, its variable x, the place's variable p. -/
structure RAt (s : ByteArray) (x b p : Nat) (q : Rdr × Nat) (W : World) : Prop where
  rd : RdrAt W b s q.1.at_ q.1.err
  vx : Blk W x #[.pointer (some ⟨b, 0, none⟩)] 50
  vp : Blk W p #[.int .i64 (q.2 : Int)] 3
  ok : RdOk s q.1
  le : q.2 ≤ q.1.at_
set_option maxRecDepth 100000 in
set_option maxHeartbeats 4000000 in
theorem rc1_any (s : ByteArray) (x b p : Nat) (q : Rdr × Nat) (y most : Int) (W : World) (h : RAt s x b p q W) (hs : s.size ≤ 16777216) (hx : x ≠ b) (hxp : x ≠ p) (hbp : b ≠ p) (hm : 0 ≤ most ∧ most ≤ 4398046511104) :
    Calls Tryd.prog 42 #[.int .i64 y, .int .i64 most, .pointer (some ⟨x, 0, none⟩), .pointer (some ⟨p, 0, none⟩)] W fun e' W' => e' = .returned (.int .i64 ((numR q.1 most.toNat).1 : Int)) ∧ RAt s x b p ((numR q.1 most.toNat).2, q.1.at_) W' ∧ Turn [x, b, p] W W' := by
  obtain ⟨⟨rs, ra, re⟩, pl⟩ := q
  obtain ⟨hrd, hvx, hvp, ⟨hok1, hok2⟩, hle⟩ := h
  dsimp only at *
  subst hok1
  have HAT := hid (rAt_any b s ra re W hrd)
  have cx := hvx.cell 0 (v := .pointer (some ⟨b, 0, none⟩)) rfl
  have cp := hvp.cell 0 (v := .int .i64 (pl : Int)) rfl
  have zp := hvp.free 0
  have hrd2 : RdrAt (W.setCell ⟨p, 0, none⟩ (.int .i64 (ra : Int))) b s ra re := Blk.set_other hrd _ _ (by show b ≠ p; exact hbp)
  have hvx2 := hvx.set_other ⟨p, 0, none⟩ (.int .i64 (ra : Int)) (by show x ≠ p; exact hxp)
  have hvp2 := hvp.set 0 (.int .i64 (ra : Int))
  have cx2 := hvx2.cell 0 (v := .pointer (some ⟨b, 0, none⟩)) rfl
  have hmn : (most.toNat : Int) = most := by omega
  have j1 : IntKind.u64.wrap most = most := by simp [IntKind.wrap, IntKind.signed, IntKind.bits]; omega
  have HN := hid (rnum_any b s ra re most.toNat _ hrd2 hs hok2 (by omega))
  rw [hmn] at HN
  have hnl := numR_le ⟨byt s, ra, re⟩ most.toNat
  have hno := numR_ok (s := s) (r := ⟨byt s, ra, re⟩) ⟨rfl, hok2⟩ most.toNat
  obtain ⟨r, hr⟩ : ∃ r, r = numR ⟨byt s, ra, re⟩ most.toNat := ⟨_, rfl⟩
  rw [← hr] at HN hnl hno ⊢
  have j2 : wrap64 (r.1 : Int) = (r.1 : Int) := by unfold wrap64; omega
  have HNO := hid hno
  have HV := hid (And.intro hvx2 hvp2)
  have HNE := hid (And.intro hx (And.intro hxp hbp))
  obtain ⟨Q, hQ⟩ : ∃ Q : Ending → World → Prop, Q = fun e' W' => e' = .returned (.int .i64 (r.1 : Int)) ∧ RAt s x b p (r.2, ra) W' ∧ Turn [x, b, p] W W' := ⟨_, rfl⟩
  rw [← hQ]
  have HQ := hid hQ
  clear hQ hrd hvx hvp hok2 hle hx hxp hbp hs hm hrd2 hvx2 hvp2 hmn hr hnl hno
  go_enter Tryd.func42, Tryd.ntmps42
  go_wp2_with fail
  refine HAT.out.mono ?_
  rintro e' w2 ⟨rfl, rfl⟩
  go_wp2_with fail
  refine HN.out.mono ?_
  rintro e' w3 ⟨rfl, hra, hT⟩
  go_wp2_with fail
  rw [HQ.out]
  refine ⟨by show Ending.returned (Value.int .i64 (wrap64 (r.1 : Int))) = _; rw [j2], ⟨hra, hT.blk (by simp; exact HNE.out.1) HV.out.1, hT.blk (by simp; exact fun e => HNE.out.2.2 e.symm) HV.out.2, HNO.out.1, HNO.out.2⟩, ?_⟩
  exact ((Turn.refl _ _).setCell (Or.inl (by simp)) _).trans (hT.mono (by simp))
set_option maxRecDepth 100000 in
set_option maxHeartbeats 4000000 in
theorem rc2_any (s : ByteArray) (x b p : Nat) (q : Rdr × Nat) (y : Int) (W : World) (h : RAt s x b p q W) (hs : s.size ≤ 16777216) (hx : x ≠ b) (hxp : x ≠ p) (hbp : b ≠ p) :
    Calls Tryd.prog 44 #[.int .i64 y, .pointer (some ⟨x, 0, none⟩)] W fun e' W' => e' = .returned (.int .i64 (zagZ (numR q.1 maxU).1)) ∧ RAt s x b p ((numR q.1 maxU).2, q.2) W' ∧ Turn [x, b, p] W W' := by
  obtain ⟨⟨rs, ra, re⟩, pl⟩ := q
  obtain ⟨hrd, hvx, hvp, ⟨hok1, hok2⟩, hle⟩ := h
  dsimp only at *
  subst hok1
  have cx := hvx.cell 0 (v := .pointer (some ⟨b, 0, none⟩)) rfl
  have HN := hid (rint_any b s ra re _ hrd hs hok2)
  have hno := numR_ok (s := s) (r := ⟨byt s, ra, re⟩) ⟨rfl, hok2⟩ maxU
  obtain ⟨r, hr⟩ : ∃ r, r = numR ⟨byt s, ra, re⟩ maxU := ⟨_, rfl⟩
  rw [← hr] at HN hno ⊢
  have HNO := hid hno
  have HV := hid (And.intro hvx hvp)
  have HNE := hid (And.intro hx (And.intro hxp hbp))
  have HLE := hid hle
  obtain ⟨Q, hQ⟩ : ∃ Q : Ending → World → Prop, Q = fun e' W' => e' = .returned (.int .i64 (zagZ r.1)) ∧ RAt s x b p (r.2, pl) W' ∧ Turn [x, b, p] W W' := ⟨_, rfl⟩
  rw [← hQ]
  have HQ := hid hQ
  clear hQ hrd hvx hvp hok2 hle hx hxp hbp hs hr hno
  go_enter Tryd.func44, Tryd.ntmps44
  go_wp2_with fail
  refine HN.out.mono ?_
  rintro e' w3 ⟨rfl, hra, hT⟩
  go_wp2_with fail
  rw [HQ.out]
  exact ⟨rfl, ⟨hra, hT.blk (by simp; exact HNE.out.1) HV.out.1, hT.blk (by simp; exact fun e => HNE.out.2.2 e.symm) HV.out.2, HNO.out.1, Nat.le_trans HLE.out HNO.out.2⟩, hT.mono (by simp)⟩
theorem failR_ok {s : ByteArray} {r : Rdr} {p : Nat} (h : RdOk s r) (hp : p ≤ r.at_) : RdOk s (failR r p) ∧ p ≤ (failR r p).at_ := by
  unfold failR
  split
  · exact ⟨h, hp⟩
  · exact ⟨⟨h.1, Nat.le_trans hp h.2⟩, Nat.le_refl _⟩
set_option maxRecDepth 100000 in
set_option maxHeartbeats 4000000 in
theorem rc3_any (s : ByteArray) (x b p : Nat) (q : Rdr × Nat) (W : World) (h : RAt s x b p q W) (hx : x ≠ b) (hxp : x ≠ p) (hbp : b ≠ p) :
    Calls Tryd.prog 46 #[.pointer (some ⟨x, 0, none⟩), .pointer (some ⟨p, 0, none⟩)] W fun e' W' => (∃ v, e' = .returned v) ∧ RAt s x b p (failR q.1 q.2, q.2) W' ∧ Turn [x, b, p] W W' := by
  obtain ⟨⟨rs, ra, re⟩, pl⟩ := q
  obtain ⟨hrd, hvx, hvp, ⟨hok1, hok2⟩, hle⟩ := h
  dsimp only at *
  subst hok1
  have cx := hvx.cell 0 (v := .pointer (some ⟨b, 0, none⟩)) rfl
  have cp := hvp.cell 0 (v := .int .i64 (pl : Int)) rfl
  have HN := hid (rfail_any b s ra re pl _ hrd hle)
  have hno := failR_ok (s := s) (r := ⟨byt s, ra, re⟩) ⟨rfl, hok2⟩ hle
  obtain ⟨r, hr⟩ : ∃ r, r = failR ⟨byt s, ra, re⟩ pl := ⟨_, rfl⟩
  rw [← hr] at HN hno ⊢
  have HNO := hid hno
  have HV := hid (And.intro hvx hvp)
  have HNE := hid (And.intro hx (And.intro hxp hbp))
  obtain ⟨Q, hQ⟩ : ∃ Q : Ending → World → Prop, Q = fun e' W' => (∃ v, e' = .returned v) ∧ RAt s x b p (r, pl) W' ∧ Turn [x, b, p] W W' := ⟨_, rfl⟩
  rw [← hQ]
  have HQ := hid hQ
  clear hQ hrd hvx hvp hok2 hle hx hxp hbp hr hno
  go_enter Tryd.func46, Tryd.ntmps46
  go_wp2_with fail
  refine HN.out.mono ?_
  rintro e' w3 ⟨⟨v, rfl⟩, hra, hT⟩
  go_wp2_with fail
  go_end0
  rw [HQ.out]
  exact ⟨⟨_, rfl⟩, ⟨hra, hT.blk (by simp; exact HNE.out.1) HV.out.1, hT.blk (by simp; exact fun e => HNE.out.2.2 e.symm) HV.out.2, HNO.out.1, HNO.out.2⟩, hT.mono (by simp)⟩
theorem rClOk (s : ByteArray) (x b p : Nat) (hs : s.size ≤ 16777216) (hx : x ≠ b) (hxp : x ≠ p) (hbp : b ≠ p) :
    ClOk rCl [x, b, p] (RAt s x b p) (fun _ => True) (fun _ _ => True) 42 44 46 #[.pointer (some ⟨x, 0, none⟩), .pointer (some ⟨p, 0, none⟩)] #[.pointer (some ⟨x, 0, none⟩)] #[.pointer (some ⟨x, 0, none⟩), .pointer (some ⟨p, 0, none⟩)] where
  okm j s h := trivial
  okn j s x m h := trivial
  en args W := by kernel_rfl
  ei args W := by kernel_rfl
  eb args W := by kernel_rfl
  keep q W W' h hk := by
    have e1 := hk x (by simp)
    have e2 := hk b (by simp)
    have e3 := hk p (by simp)
    exact ⟨by unfold RdrAt Blk; rw [e2]; exact h.rd, by unfold Blk; rw [e1]; exact h.vx, by unfold Blk; rw [e3]; exact h.vp, h.ok, h.le⟩
  num q y most W h _ _ hm := rc1_any s x b p q y most W h hs hx hxp hbp hm
  nb q y most _ hm := by
    have := numR_le q.1 most.toNat
    show 0 ≤ ((numR q.1 most.toNat).1 : Int) ∧ ((numR q.1 most.toNat).1 : Int) ≤ _
    omega
  int q y W h _ hy := rc2_any s x b p q y W h hs hx hxp hbp
  bad q W h := rc3_any s x b p q W h hx hxp hbp
end Go.Proofs.YtokkafiphchejaaDoor
/-
  Walks: the document's reader (seesawref02), its numbers (seesawref01.Get, Zag), told (seesawref14).
-/
namespace Go.Proofs.YtokkafiphchejaaDoor
set_option linter.unusedVariables false
set_option linter.unusedSimpArgs false
set_option linter.unusedVariables false
open Go Go.RowKit
/-- The document's reader in memory. -/
def RRd (w : World) (b : Nat) (s : ByteArray) (at_ e : Nat) : Prop := Blk w b #[.string s, .int .i64 (at_ : Int), .int .i64 (e : Int)] 62
set_option maxRecDepth 100000 in
set_option maxHeartbeats 4000000 in
theorem qnew_any (s : ByteArray) (w : World) (hs : s.size ≤ 16777216) : Calls Tryd.prog 21 #[.string s] w fun e w' => e = .returned (.tuple #[.pointer (some ⟨w.heap.size, 0, none⟩), .int .i64 0]) ∧ RRd w' w.heap.size s 0 0 ∧ Below w.heap.size w w' := by
  have j1 : decide ((16777216 : Int) < (s.size : Int)) = false := decide_eq_false (by omega)
  have j2 : decide (16777216 < s.size) = false := decide_eq_false (by omega)
  have j3 : wrap64 (s.size : Int) = (s.size : Int) := by unfold wrap64; omega
  have HB : Hid (Below w.heap.size w (w.alloc (.cells #[.string s, .int .i64 0, .int .i64 0] 62))) := hid (ext_alloc (ext_refl _) _)
  have HR : Hid (RRd (w.alloc (.cells #[.string s, .int .i64 0, .int .i64 0] 62)) w.heap.size s 0 0) := hid (Blk.new _ _ _)
  clear hs
  go_enter Tryd.func21, Tryd.ntmps21
  go_wp2_with fail
  go_ret2
  exact ⟨rfl, HR.out, HB.out⟩
set_option maxRecDepth 100000 in
set_option maxHeartbeats 4000000 in
theorem qset_any (b : Nat) (s : ByteArray) (at_ e x : Nat) (w : World) (h : RRd w b s at_ e) : Calls Tryd.prog 74 #[.pointer (some ⟨b, 0, none⟩), .int .i64 (x : Int)] w fun e' w' => e' = .returned (.int .i64 (x : Int)) ∧ w' = w.setCell ⟨b, 2, none⟩ (.int .i64 (x : Int)) := by
  have c2 : w.cell? ⟨b, 2, none⟩ = some (.int .i64 (e : Int)) := Blk.cell h 2 rfl
  have z2 := Blk.free h 2
  clear h
  go_enter Tryd.func74, Tryd.ntmps74
  go_wp2_with fail
  go_ret
  exact ⟨rfl, rfl⟩
/-- What a read of a number tells. -/
def QumP (b : Nat) (s : ByteArray) (r : Nat × Rdr) (w : World) (e' : Ending) (w' : World) : Prop :=
  e' = .returned (.tuple #[.int .u64 (r.1 : Int), .int .i64 (r.2.err : Int)]) ∧ RRd w' b s r.2.at_ r.2.err ∧ Turn [b] w w'
set_option maxRecDepth 100000 in
set_option maxHeartbeats 4000000 in
theorem qnum_any (b : Nat) (s : ByteArray) (at_ e most : Nat) (w : World) (h : RRd w b s at_ e) (hs : s.size ≤ 16777216) (ha : at_ ≤ s.size) (hm : most ≤ 18446744073709551615) : Calls Tryd.prog 72 #[.pointer (some ⟨b, 0, none⟩), .int .u64 (most : Int)] w (QumP b s (numR ⟨byt s, at_, e⟩ most) w) := by
  have c0 : w.cell? ⟨b, 0, none⟩ = some (.string s) := Blk.cell h 0 rfl
  have c1 : w.cell? ⟨b, 1, none⟩ = some (.int .i64 (at_ : Int)) := Blk.cell h 1 rfl
  have c2 : w.cell? ⟨b, 2, none⟩ = some (.int .i64 (e : Int)) := Blk.cell h 2 rfl
  have z1 := Blk.free h 1
  have HH := hid h
  have HSET := hid (fun (x : Nat) (w' : World) (hw : Below w.heap.size w w') => qset_any b s at_ e x w' (Blk.below hw h))
  by_cases he : e = 0
  case neg =>
    have hn : numR ⟨byt s, at_, e⟩ most = (0, ⟨byt s, at_, e⟩) := by unfold numR; dsimp only; rw [if_pos he]
    rw [hn]
    have j1 : ((e : Int) == 0) = false := beq_eq_false_iff_ne.2 (by omega)
    have j2 : (e == 0) = false := beq_eq_false_iff_ne.2 he
    have j3 : ((e : Int) != 0) = true := bne_iff_ne.2 (by omega)
    have j4 : (e != 0) = true := bne_iff_ne.2 he
    obtain ⟨Q, hQ⟩ : ∃ Q, Q = QumP b s (0, ⟨byt s, at_, e⟩) w := ⟨_, rfl⟩
    rw [← hQ]
    have HQ := hid hQ
    clear h hs ha hm hn hQ he
    go_enter Tryd.func72, Tryd.ntmps72
    go_wp2_with fail
    go_quiet (fail)
    go_wp2_with fail
    rw [HQ.out]
    exact ⟨rfl, Blk.below (ext_drewN (ext_refl w) nq) HH.out, Turn.of_below (ext_drewN (ext_refl w) nq)⟩
  subst he
  have HNUM := hid (fun (w' : World) => (rget_any (s.extract at_ s.size) w' (by simp; omega)).mono fun e' w'' hh => And.intro hh.1 hh.2.symm)
  rw [byt_from] at HNUM
  obtain ⟨n, size, er, hg⟩ : ∃ n size er, getN ((byt s).drop at_) = (n, size, er) := ⟨_, _, _, rfl⟩
  have hsz : er = 0 → at_ + size ≤ s.size := fun h0 => by
    subst h0
    have := (put_get (fun c hc => byt_lt s c (List.mem_of_mem_drop hc)) hg).2.2.2
    rw [List.length_drop, byt_len] at this
    omega
  rw [hg] at HNUM
  dsimp only at HNUM
  have g0 : (0 : Int) ≤ (at_ : Int) := by omega
  have g1 : (at_ : Int) ≤ (s.size : Int) := by omega
  have g2 : at_ ≤ s.size := ha
  have HS := hid hs
  by_cases h0 : er = 0
  case neg =>
    have hn : numR ⟨byt s, at_, 0⟩ most = (0, ⟨byt s, at_, er⟩) := by unfold numR; dsimp only; rw [if_neg (by omega), hg]; dsimp only; rw [if_pos h0]
    rw [hn]
    have j1 : ((er : Int) == 0) = false := beq_eq_false_iff_ne.2 (by omega)
    have j2 : (er == 0) = false := beq_eq_false_iff_ne.2 h0
    have j3 : ((er : Int) != 0) = true := bne_iff_ne.2 (by omega)
    have j4 : (er != 0) = true := bne_iff_ne.2 h0
    obtain ⟨Q, hQ⟩ : ∃ Q, Q = QumP b s (0, ⟨byt s, at_, er⟩) w := ⟨_, rfl⟩
    rw [← hQ]
    have HQ := hid hQ
    clear h hs ha hg hsz hn hQ h0 hm
    go_enter Tryd.func72, Tryd.ntmps72
    go_wp2_with fail
    go_quiet (exact Calls.quiet_of_same (HNUM.out _))
    go_wp2_with fail
    refine (HSET.out er _ (ext_drewN (ext_refl _) nq)).mono ?_
    rintro e' w' ⟨rfl, rfl⟩
    go_wp2_with fail
    rw [HQ.out]
    refine ⟨rfl, ?_, ((Turn.refl _ _).drewN _).setCell (Or.inl (by simp)) _⟩
    exact (HH.out.below (ext_drewN (ext_refl _) nq)).set 2 (.int .i64 (er : Int))
  subst h0
  by_cases hlt : most < n
  case pos =>
    have hn : numR ⟨byt s, at_, 0⟩ most = (0, ⟨byt s, at_, 20⟩) := by unfold numR; dsimp only; rw [if_neg (by omega), hg]; dsimp only; rw [if_neg (by omega), if_pos hlt]
    rw [hn]
    have j1 : decide ((most : Int) < (n : Int)) = true := decide_eq_true (by omega)
    have j2 : decide (most < n) = true := decide_eq_true hlt
    obtain ⟨Q, hQ⟩ : ∃ Q, Q = QumP b s (0, ⟨byt s, at_, 20⟩) w := ⟨_, rfl⟩
    rw [← hQ]
    have HQ := hid hQ
    clear h hs ha hg hsz hn hQ hm hlt
    go_enter Tryd.func72, Tryd.ntmps72
    go_wp2_with fail
    go_quiet (exact Calls.quiet_of_same (HNUM.out _))
    go_wp2_with fail
    refine (HSET.out 20 _ (ext_drewN (ext_refl _) nq)).mono ?_
    rintro e' w' ⟨rfl, rfl⟩
    go_wp2_with fail
    rw [HQ.out]
    refine ⟨rfl, ?_, ((Turn.refl _ _).drewN _).setCell (Or.inl (by simp)) _⟩
    exact (HH.out.below (ext_drewN (ext_refl _) nq)).set 2 (.int .i64 ((20 : Nat) : Int))
  have hn : numR ⟨byt s, at_, 0⟩ most = (n, ⟨byt s, at_ + size, 0⟩) := by unfold numR; dsimp only; rw [if_neg (by omega), hg]; dsimp only; rw [if_neg (by omega), if_neg hlt]
  rw [hn]
  have hz := hsz rfl
  have j1 : decide ((most : Int) < (n : Int)) = false := decide_eq_false (by omega)
  have j2 : decide (most < n) = false := decide_eq_false hlt
  have j3 : IntKind.i64.wrap ((at_ : Int) + (size : Int)) = (at_ : Int) + (size : Int) := IntWalk.i64_in _ (by omega)
  obtain ⟨Q, hQ⟩ : ∃ Q, Q = QumP b s (n, ⟨byt s, at_ + size, 0⟩) w := ⟨_, rfl⟩
  rw [← hQ]
  have HQ := hid hQ
  clear h hs ha hg hsz hn hQ hm hlt hz
  go_enter Tryd.func72, Tryd.ntmps72
  go_wp2_with fail
  go_quiet (exact Calls.quiet_of_same (HNUM.out _))
  go_wp2_with fail
  rw [HQ.out]
  refine ⟨rfl, ?_, ((Turn.refl _ _).drewN _).setCell (Or.inl (by simp)) _⟩
  exact (HH.out.below (ext_drewN (ext_refl _) nq)).set 1 (.int .i64 ((at_ : Int) + (size : Int)))
set_option maxRecDepth 100000 in
set_option maxHeartbeats 4000000 in
theorem qzag_any (n : Nat) (w : World) (hn : n < 18446744073709551616) : Calls Tryd.prog 73 #[.int .u64 (n : Int)] w fun e w' => e = .returned (.int .i64 (zagZ n)) ∧ w = w' := by
  have e1 : IntKind.u64.wrap ((n : Int) / 2) = (n : Int) / 2 := IntWalk.u64_in _ (by omega)
  have e2 : IntKind.i64.wrap ((n : Int) / 2) = (n : Int) / 2 := IntWalk.i64_in _ (by omega)
  by_cases h : n % 2 = 0
  · have j1 : ((n : Int) % 2 == 0) = true := by rw [beq_iff_eq]; omega
    have hz : zagZ n = (n : Int) / 2 := by unfold zagZ; rw [if_pos h]; omega
    have HZ := hid hz
    clear hz h hn
    go_enter Tryd.func73, Tryd.ntmps73
    go_wp2_with fail
    go_ret
    exact ⟨by rw [HZ.out]; rfl, rfl⟩
  · have j1 : ((n : Int) % 2 == 0) = false := by rw [beq_eq_false_iff_ne]; omega
    have e3 : IntKind.i64.wrap (-((n : Int) / 2)) = -((n : Int) / 2) := IntWalk.i64_in _ (by omega)
    have e4 : IntKind.i64.wrap (-((n : Int) / 2) - 1) = -((n : Int) / 2) - 1 := IntWalk.i64_in _ (by omega)
    have hz : zagZ n = -((n : Int) / 2) - 1 := by unfold zagZ; rw [if_neg h]; omega
    have HZ := hid hz
    clear hz h hn
    go_enter Tryd.func73, Tryd.ntmps73
    go_wp2_with fail
    go_ret
    exact ⟨by rw [HZ.out]; rfl, rfl⟩
set_option maxRecDepth 100000 in
set_option maxHeartbeats 4000000 in
theorem qint_any (b : Nat) (s : ByteArray) (at_ e : Nat) (w : World) (h : RRd w b s at_ e) (hs : s.size ≤ 16777216) (ha : at_ ≤ s.size) : Calls Tryd.prog 49 #[.pointer (some ⟨b, 0, none⟩)] w fun e' w' => (e' = .returned (.tuple #[.int .i64 (zagZ (numR ⟨byt s, at_, e⟩ maxU).1), .int .i64 ((numR ⟨byt s, at_, e⟩ maxU).2.err : Int)]) ∧ RRd w' b s (numR ⟨byt s, at_, e⟩ maxU).2.at_ (numR ⟨byt s, at_, e⟩ maxU).2.err ∧ Turn [b] w w') := by
  have HN := hid (qnum_any b s at_ e maxU w h hs ha (by unfold maxU; omega))
  have hle := numR_le ⟨byt s, at_, e⟩ maxU
  have h00 : (numR ⟨byt s, at_, e⟩ maxU).2.err ≠ 0 → (numR ⟨byt s, at_, e⟩ maxU).1 = 0 := by
    unfold numR
    dsimp only
    split
    · intro _; rfl
    · split
      · intro _; rfl
      · split
        · intro _; rfl
        · rename_i h0 _ _
          intro h
          exact absurd (show e = 0 by omega) h
  obtain ⟨r, hr⟩ : ∃ r, r = numR ⟨byt s, at_, e⟩ maxU := ⟨_, rfl⟩
  rw [← hr] at HN hle h00 ⊢
  have HZ := hid (fun w' => qzag_any r.1 w' (by unfold maxU at hle; omega))
  unfold maxU at HN
  obtain ⟨rn, rs, ra, re⟩ := r
  dsimp only at HN HZ h00 ⊢
  clear h hs ha hr hle
  obtain ⟨Q, hQ⟩ : ∃ Q : Ending → World → Prop, Q = fun e' w' => (e' = .returned (.tuple #[.int .i64 (zagZ rn), .int .i64 (re : Int)]) ∧ RRd w' b s ra re ∧ Turn [b] w w') := ⟨_, rfl⟩
  rw [← hQ]
  have HQ := hid hQ
  clear hQ
  by_cases he : re = 0
  · subst he
    clear h00
    go_enter Tryd.func49, Tryd.ntmps49
    go_wp2_with fail
    refine HN.out.mono ?_
    rintro e' w2 ⟨rfl, hra, hT⟩
    go_wp2_with fail
    refine (HZ.out _).mono ?_
    rintro e' w3 ⟨rfl, rfl⟩
    go_wp2_with fail
    rw [HQ.out]
    exact ⟨rfl, hra, hT⟩
  · obtain rfl := h00 he
    have j1 : ((re : Int) == 0) = false := beq_eq_false_iff_ne.2 (by omega)
    have j2 : (re == 0) = false := beq_eq_false_iff_ne.2 he
    have j3 : ((re : Int) != 0) = true := bne_iff_ne.2 (by omega)
    have j4 : (re != 0) = true := bne_iff_ne.2 he
    clear h00 he
    go_enter Tryd.func49, Tryd.ntmps49
    go_wp2_with fail
    refine HN.out.mono ?_
    rintro e' w2 ⟨rfl, hra, hT⟩
    go_wp2_with fail
    rw [HQ.out]
    exact ⟨rfl, hra, hT⟩
set_option maxRecDepth 100000 in
set_option maxHeartbeats 4000000 in
theorem qfail_any (b : Nat) (s : ByteArray) (at_ e place : Nat) (w : World) (h : RRd w b s at_ e) (hp : place ≤ at_) : Calls Tryd.prog 50 #[.pointer (some ⟨b, 0, none⟩), .int .i64 (place : Int), .int .i64 20] w fun e' w' => (∃ v, e' = .returned v) ∧ RRd w' b s (failR ⟨byt s, at_, e⟩ place).at_ (failR ⟨byt s, at_, e⟩ place).err ∧ Turn [b] w w' := by
  have HH := hid h
  have c1 : w.cell? ⟨b, 1, none⟩ = some (.int .i64 (at_ : Int)) := Blk.cell h 1 rfl
  have c2 : w.cell? ⟨b, 2, none⟩ = some (.int .i64 (e : Int)) := Blk.cell h 2 rfl
  have z1 := Blk.free h 1
  by_cases he : e = 0
  · subst he
    have g1 : decide ((place : Int) < 0) = false := decide_eq_false (by omega)
    have g2 : decide ((at_ : Int) < (place : Int)) = false := decide_eq_false (by omega)
    have g3 : decide (at_ < place) = false := decide_eq_false (by omega)
    have hf : failR ⟨byt s, at_, 0⟩ place = ⟨byt s, place, 20⟩ := rfl
    rw [hf]
    have HSET := hid (qset_any b s place 0 20 (w.setCell ⟨b, 1, none⟩ (.int .i64 (place : Int))) (Blk.set h 1 (.int .i64 (place : Int))))
    obtain ⟨Q, hQ⟩ : ∃ Q : Ending → World → Prop, Q = fun e' w' => (∃ v, e' = .returned v) ∧ RRd w' b s place 20 ∧ Turn [b] w w' := ⟨_, rfl⟩
    rw [← hQ]
    have HQ := hid hQ
    clear h hp hf hQ
    go_enter Tryd.func50, Tryd.ntmps50
    go_wp2_with fail
    refine HSET.out.mono ?_
    rintro e' w2 ⟨rfl, rfl⟩
    go_wp2_with fail
    rw [HQ.out]
    exact ⟨⟨_, rfl⟩, (Blk.set HH.out 1 _).set 2 _, ((Turn.refl _ _).setCell (Or.inl (by simp)) _).setCell (Or.inl (by simp)) _⟩
  · have j1 : ((e : Int) == 0) = false := beq_eq_false_iff_ne.2 (by omega)
    have j2 : (e == 0) = false := beq_eq_false_iff_ne.2 he
    have j3 : ((e : Int) != 0) = true := bne_iff_ne.2 (by omega)
    have j4 : (e != 0) = true := bne_iff_ne.2 he
    have hf : failR ⟨byt s, at_, e⟩ place = ⟨byt s, at_, e⟩ := by unfold failR; dsimp only; rw [if_pos he]
    rw [hf]
    obtain ⟨Q, hQ⟩ : ∃ Q : Ending → World → Prop, Q = fun e' w' => (∃ v, e' = .returned v) ∧ RRd w' b s at_ e ∧ Turn [b] w w' := ⟨_, rfl⟩
    rw [← hQ]
    have HQ := hid hQ
    clear h hp hf hQ he
    go_enter Tryd.func50, Tryd.ntmps50
    go_wp2_with fail
    rw [HQ.out]
    exact ⟨⟨_, rfl⟩, HH.out, Turn.refl _ _⟩
set_option maxRecDepth 100000 in
set_option maxHeartbeats 4000000 in
theorem qwrong_any (b : Nat) (s : ByteArray) (at_ e : Nat) (w : World) (h : RRd w b s at_ e) : Calls Tryd.prog 25 #[.pointer (some ⟨b, 0, none⟩)] w fun e' w' => e' = .returned (.tuple #[.int .i64 (if e = 0 then 0 else (at_ : Int)), .int .i64 (e : Int)]) ∧ Below w.heap.size w w' := by
  have c1 : w.cell? ⟨b, 1, none⟩ = some (.int .i64 (at_ : Int)) := Blk.cell h 1 rfl
  have c2 : w.cell? ⟨b, 2, none⟩ = some (.int .i64 (e : Int)) := Blk.cell h 2 rfl
  clear h
  by_cases h0 : e = 0
  · subst h0
    go_enter Tryd.func25, Tryd.ntmps25
    go_wp2_with fail
    go_ret2
    exact ⟨rfl, ext_refl _⟩
  · have j1 : ((e : Int) == 0) = false := beq_eq_false_iff_ne.2 (by omega)
    have j2 : (e == 0) = false := beq_eq_false_iff_ne.2 h0
    rw [if_neg h0]
    clear h0
    go_enter Tryd.func25, Tryd.ntmps25
    go_wp2_with fail
    go_quiet (fail)
    go_wp2_with fail
    go_ret2
    exact ⟨rfl, ext_drewN (ext_refl w) nq⟩

set_option maxRecDepth 100000 in
set_option maxHeartbeats 4000000 in
theorem told_any (b : Nat) (s : ByteArray) (at_ e most : Nat) (w : World) (h : RRd w b s at_ e) (hs : s.size ≤ 16777216) (ha : at_ ≤ s.size) (hm : most ≤ 4398046511104) : Calls Tryd.prog 48 #[.pointer (some ⟨b, 0, none⟩), .int .i64 (most : Int)] w fun e' w' => e' = .returned (.int .i64 ((numR ⟨byt s, at_, e⟩ most).1 : Int)) ∧ RRd w' b s (numR ⟨byt s, at_, e⟩ most).2.at_ (numR ⟨byt s, at_, e⟩ most).2.err ∧ Turn [b] w w' := by
  have HN := hid (qnum_any b s at_ e most w h hs ha (by omega))
  have hle := numR_le ⟨byt s, at_, e⟩ most
  have j1 : IntKind.u64.wrap (most : Int) = (most : Int) := IntWalk.u64_in _ (by omega)
  obtain ⟨r, hr⟩ : ∃ r, r = numR ⟨byt s, at_, e⟩ most := ⟨_, rfl⟩
  rw [← hr] at HN hle ⊢
  have j2 : IntKind.i64.wrap (r.1 : Int) = (r.1 : Int) := IntWalk.i64_in _ (by omega)
  clear h hs ha hr hle hm
  obtain ⟨Q, hQ⟩ : ∃ Q : Ending → World → Prop, Q = fun e' w' => (e' = .returned (.int .i64 (r.1 : Int)) ∧ RRd w' b s r.2.at_ r.2.err ∧ Turn [b] w w') := ⟨_, rfl⟩
  rw [← hQ]
  have HQ := hid hQ
  clear hQ
  go_enter Tryd.func48, Tryd.ntmps48
  go_wp2_with fail
  refine HN.out.mono ?_
  rintro e' w2 ⟨rfl, hra, hT⟩
  go_wp2_with fail
  rw [HQ.out]
  exact ⟨rfl, hra, hT⟩
end Go.Proofs.YtokkafiphchejaaDoor
