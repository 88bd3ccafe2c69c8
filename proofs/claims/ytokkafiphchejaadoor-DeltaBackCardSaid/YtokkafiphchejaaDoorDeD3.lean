/-
  Events as bytes: what is read, written anew, are the bytes that were gone over; it may be told. Nothing of the program.
-/
import Derived.Test.YtokkafiphchejaaDoorDeD2
namespace Go.Proofs.YtokkafiphchejaaDoor
set_option linter.unusedVariables false
theorem take_app {s A B : List Nat} {at_ : Nat} (h1 : (s.drop at_).take A.length = A) (h2 : (s.drop (at_ + A.length)).take B.length = B) : (s.drop at_).take (A ++ B).length = A ++ B := by
  rw [List.length_append, List.take_add, h1, List.drop_drop, h2]
theorem one_back {s : List Nat} {at1 m1 nb : Nat} {rb : Rdr} (hs : ∀ b ∈ s, b < 256) (hB : numR ⟨s, at1, 0⟩ m1 = (nb, rb)) (he : rb.err = 0) :
    rb = ⟨s, at1 + ([nb].flatMap putN).length, 0⟩ ∧ (s.drop at1).take ([nb].flatMap putN).length = [nb].flatMap putN ∧ nb ≤ m1 ∧ nb < 18446744073709551616 := by
  obtain ⟨h1, h2, h3, h4, -⟩ := num_back hs hB he
  simp only [List.flatMap_cons, List.flatMap_nil, List.append_nil]
  exact ⟨h1, h2, h3, h4⟩
theorem two_back {s : List Nat} {at1 m1 m2 nb nd : Nat} {rb rd : Rdr} (hs : ∀ b ∈ s, b < 256) (hB : numR ⟨s, at1, 0⟩ m1 = (nb, rb)) (hD : numR rb m2 = (nd, rd)) (he : rd.err = 0) :
    rd = ⟨s, at1 + ([nb, nd].flatMap putN).length, 0⟩ ∧ (s.drop at1).take ([nb, nd].flatMap putN).length = [nb, nd].flatMap putN ∧ nb ≤ m1 ∧ nd ≤ m2 ∧ nb < 18446744073709551616 ∧ nd < 18446744073709551616 := by
  have hrb : rb.err = 0 := by
    by_cases h : rb.err = 0
    · exact h
    · rw [numR_err h] at hD
      obtain ⟨-, rfl⟩ := Prod.mk.inj hD
      exact absurd he h
  obtain ⟨rfl, h2, h3, h4, -⟩ := num_back hs hB hrb
  obtain ⟨rfl, g2, g3, g4, -⟩ := num_back hs hD he
  have := take_app h2 g2
  simp only [List.flatMap_cons, List.flatMap_nil, List.append_nil]
  exact ⟨by rw [List.length_append, Nat.add_assoc], this, h3, g3, h4, g4⟩
theorem first_back {T last : Int} {n : Nat} (hT : 1 ≤ T ∧ T ≤ 6) (hl : 0 ≤ last ∧ last < T) (hn : (n : Int) ≤ 13 * T - 1) :
    (1 ≤ (n : Int) / T + 1 ∧ (n : Int) / T + 1 ≤ 13) ∧ (0 ≤ ((n : Int) % T + last) % T ∧ ((n : Int) % T + last) % T < T) ∧ ((n : Int) / T + 1 - 1) * T + (((n : Int) % T + last) % T - last + T) % T = (n : Int) := by
  have : T = 1 ∨ T = 2 ∨ T = 3 ∨ T = 4 ∨ T = 5 ∨ T = 6 := by omega
  rcases this with rfl | rfl | rfl | rfl | rfl | rfl <;> omega
theorem w64_id {x : Int} (h : -9223372036854775808 ≤ x ∧ x ≤ 9223372036854775807) : w64 x = x := by unfold w64; omega
theorem w64_diff (x y : Int) (hy : -9223372036854775808 ≤ y ∧ y ≤ 9223372036854775807) : w64 (w64 (x + y) - x) = y := by unfold w64; omega
theorem join_back {T : Int} {c : Cdr} {e : Ev} {s : List Nat} {at_ n : Nat} {r' : Rdr} {q : List Nat} (hf : firstC T c e = (n : Int)) (hq : numsC c e = q) (h1 : (s.drop at_).take (putN n).length = putN n) (h2 : (s.drop (at_ + (putN n).length)).take (q.flatMap putN).length = q.flatMap putN) (hr : r' = ⟨s, at_ + (putN n).length + (q.flatMap putN).length, 0⟩) :
    r' = ⟨s, at_ + (bytesC T c e).length, 0⟩ ∧ (s.drop at_).take (bytesC T c e).length = bytesC T c e := by
  have hb : bytesC T c e = putN n ++ q.flatMap putN := by unfold bytesC; rw [hf, hq, Int.toNat_natCast, List.flatMap_cons]
  rw [hb]
  exact ⟨by rw [hr, List.length_append, Nat.add_assoc], take_app h1 h2⟩
/-- What is read may be told, and its bytes are those that were gone over. -/
theorem read_anew {T V S : Int} {c : Cdr} {s : List Nat} {at_ : Nat} {e : Ev} {r' : Rdr} (hsz : 1 ≤ T ∧ T ≤ 6 ∧ 1 ≤ V ∧ V ≤ 32 ∧ 1 ≤ S ∧ S ≤ V) (hc : OkC T c) (hs : ∀ b ∈ s, b < 256) (h : lineR T V S c ⟨s, at_, 0⟩ = (e, r')) (he : r'.err = 0) :
    tellsC T V S c e = true ∧ (-9223372036854775808 ≤ e.x ∧ e.x ≤ 9223372036854775807) ∧ r' = ⟨s, at_ + (bytesC T c e).length, 0⟩ ∧ (s.drop at_).take (bytesC T c e).length = bytesC T c e := by
  unfold lineR at h
  obtain ⟨⟨n, ra⟩, hA⟩ : ∃ x, numR ⟨s, at_, 0⟩ (13 * T - 1).toNat = x := ⟨_, rfl⟩
  rw [hA] at h
  dsimp only at h
  by_cases hra : ra.err = 0
  case neg =>
    exfalso
    have e1 := fun m => numR_err (m := m) hra
    simp only [e1] at h
    repeat' split at h
    all_goals (
      obtain ⟨-, rfl⟩ := Prod.mk.inj h
      first
      | exact hra he
      | (unfold failR at he; rw [if_pos hra] at he; exact hra he))
  obtain ⟨rfl, p2, p3, p4, -⟩ := num_back hs hA hra
  clear hA hra
  have hcl := hc.clock
  have hbg := hc.begun
  have hbu := hc.bumped
  have hxs := hc.xs
  unfold maxClockN at hcl hbg hbu
  obtain ⟨q1, q2, q3⟩ := first_back (T := T) (last := c.last) (n := n) ⟨hsz.1, hsz.2.1⟩ hc.last (by omega)
  generalize (n : Int) / T + 1 = k at h q1 q3
  generalize ((n : Int) % T + c.last) % T = th at h q2 q3
  have hb1 := hbg th
  have hb2 := hbu th
  have hc13 : k = 1 ∨ k = 2 ∨ k = 3 ∨ k = 4 ∨ k = 5 ∨ k = 6 ∨ k = 7 ∨ k = 8 ∨ k = 9 ∨ k = 10 ∨ k = 11 ∨ k = 12 ∨ k = 13 := by omega
  have hmay : ∀ e : Ev, (1 ≤ e.kind ∧ e.kind ≤ 13 ∧ (e.kind = 10 → 1 ≤ e.why ∧ e.why ≤ 6) ∧ 0 ≤ e.th ∧ e.th < T ∧ 0 ≤ e.tx ∧ e.tx ≤ 5 ∧ leastV e ≤ e.v ∧ e.v ≤ 1099511627776 ∧ 0 ≤ e.at_ ∧ e.at_ < placesE e V S) → e = bareE e → mayE e T V S = true := by
    intro e h1 h2
    unfold mayE sizesB
    rw [decide_eq_true hsz, decide_eq_true h1, decide_eq_true (by rw [← h2]; exact ⟨rfl, rfl, rfl, rfl, rfl, rfl, rfl⟩)]
    rfl
  rcases hc13 with rfl | rfl | rfl | rfl | rfl | rfl | rfl | rfl | rfl | rfl | rfl | rfl | rfl
  · rw [if_pos (by decide)] at h
    obtain ⟨⟨nb, rb⟩, hB⟩ : ∃ x, numR ⟨s, at_ + (putN n).length, 0⟩ (5) = x := ⟨_, rfl⟩
    rw [hB] at h
    dsimp only at h
    obtain ⟨⟨nd, rd⟩, hD⟩ : ∃ x, numR rb ((maxClockN - c.clock).toNat) = x := ⟨_, rfl⟩
    rw [hD] at h
    dsimp only at h
    obtain ⟨rfl, rfl⟩ := Prod.mk.inj h
    obtain ⟨rfl, g2, g3, g4, g5, g6⟩ := two_back hs hB hD he
    obtain ⟨j1, j2⟩ := join_back (T := T) (c := c) (e := ⟨1, th, nb, 0, c.clock + nd, 0, 0⟩) (n := n) (q := [nb, nd]) q3 (by unfold numsC; dsimp only; rw [if_pos (by decide), Int.toNat_natCast, show (c.clock + (nd : Int) - c.clock).toNat = nd by omega]) p2 g2 rfl
    unfold maxClockN at g4
    refine ⟨?_, ?_, j1, j2⟩
    · unfold tellsC
      rw [hmay _ (by unfold leastV placesE; simp; try omega) (by unfold bareE; simp)]
      simp
      try omega
    · dsimp only
      omega
  · rw [if_neg (by decide), if_pos (by decide)] at h
    obtain ⟨⟨nb, rb⟩, hB⟩ : ∃ x, numR ⟨s, at_ + (putN n).length, 0⟩ ((S - 1).toNat) = x := ⟨_, rfl⟩
    rw [hB] at h
    dsimp only at h
    obtain ⟨⟨nd, rd⟩, hD⟩ : ∃ x, numR rb ((c.begun th).toNat) = x := ⟨_, rfl⟩
    rw [hD] at h
    dsimp only at h
    obtain ⟨rfl, rfl⟩ := Prod.mk.inj h
    obtain ⟨rfl, g2, g3, g4, g5, g6⟩ := two_back hs hB hD he
    obtain ⟨j1, j2⟩ := join_back (T := T) (c := c) (e := ⟨2, th, 0, nb, c.begun th - nd, 0, 0⟩) (n := n) (q := [nb, nd]) q3 (by unfold numsC; dsimp only; rw [if_neg (by decide), if_pos (by decide), Int.toNat_natCast, show (c.begun th - (c.begun th - (nd : Int))).toNat = nd by omega]) p2 g2 rfl
    refine ⟨?_, ?_, j1, j2⟩
    · unfold tellsC
      rw [hmay _ (by unfold leastV placesE; simp; try omega) (by unfold bareE; simp)]
      simp
      try omega
    · dsimp only
      omega
  · rw [if_neg (by decide), if_neg (by decide), if_pos (by decide)] at h
    obtain ⟨⟨nb, rb⟩, hB⟩ : ∃ x, numR ⟨s, at_ + (putN n).length, 0⟩ ((V - 1).toNat) = x := ⟨_, rfl⟩
    rw [hB] at h
    dsimp only at h
    obtain ⟨⟨nd, rd⟩, hD⟩ : ∃ x, numR rb (maxU) = x := ⟨_, rfl⟩
    rw [hD] at h
    dsimp only at h
    obtain ⟨rfl, rfl⟩ := Prod.mk.inj h
    obtain ⟨rfl, g2, g3, g4, g5, g6⟩ := two_back hs hB hD he
    have hz := zag_ok nd g6
    have hx := hxs nb
    obtain ⟨j1, j2⟩ := join_back (T := T) (c := c) (e := ⟨3, th, 0, nb, 0, w64 (c.x nb + zagZ nd), 0⟩) (n := n) (q := [nb, nd]) q3 (by unfold numsC; dsimp only; rw [if_neg (by decide), if_neg (by decide), if_pos (by decide), Int.toNat_natCast, w64_diff _ _ hz, zig_zag]) p2 g2 rfl
    refine ⟨?_, ?_, j1, j2⟩
    · unfold tellsC
      rw [hmay _ (by unfold leastV placesE; simp; try omega) (by unfold bareE; simp)]
      simp
      try omega
    · dsimp only
      exact w64_ok _
  · rw [if_neg (by decide), if_neg (by decide), if_neg (by decide), if_pos (by decide)] at h
    obtain ⟨⟨nb, rb⟩, hB⟩ : ∃ x, numR ⟨s, at_ + (putN n).length, 0⟩ ((S - 1).toNat) = x := ⟨_, rfl⟩
    rw [hB] at h
    dsimp only at h
    obtain ⟨rfl, rfl⟩ := Prod.mk.inj h
    obtain ⟨rfl, g2, g3, g4⟩ := one_back hs hB he
    obtain ⟨j1, j2⟩ := join_back (T := T) (c := c) (e := ⟨4, th, 0, nb, 0, 0, 0⟩) (n := n) (q := [nb]) q3 (by unfold numsC; dsimp only; rw [if_neg (by decide), if_neg (by decide), if_neg (by decide), if_pos (by decide), Int.toNat_natCast]) p2 g2 rfl
    refine ⟨?_, ?_, j1, j2⟩
    · unfold tellsC
      rw [hmay _ (by unfold leastV placesE; simp; try omega) (by unfold bareE; simp)]
      simp
      try omega
    · dsimp only
      omega
  · rw [if_neg (by decide), if_neg (by decide), if_neg (by decide), if_neg (by decide), if_pos (by decide)] at h
    obtain ⟨⟨nb, rb⟩, hB⟩ : ∃ x, numR ⟨s, at_ + (putN n).length, 0⟩ ((maxClockN - c.clock).toNat) = x := ⟨_, rfl⟩
    rw [hB] at h
    dsimp only at h
    have hnb : nb ≠ 0 := by
      intro h0
      rw [if_pos h0] at h
      obtain ⟨-, rfl⟩ := Prod.mk.inj h
      unfold failR at he
      split at he
      · rename_i hne; exact hne he
      · simp at he
    rw [if_neg hnb] at h
    obtain ⟨rfl, rfl⟩ := Prod.mk.inj h
    obtain ⟨rfl, g2, g3, g4⟩ := one_back hs hB he
    obtain ⟨j1, j2⟩ := join_back (T := T) (c := c) (e := ⟨5, th, 0, 0, c.clock + nb, 0, 0⟩) (n := n) (q := [nb]) q3 (by unfold numsC; dsimp only; rw [if_neg (by decide), if_neg (by decide), if_neg (by decide), if_neg (by decide), if_pos (by decide), show (c.clock + (nb : Int) - c.clock).toNat = nb by omega]) p2 g2 rfl
    unfold maxClockN at g3
    refine ⟨?_, ?_, j1, j2⟩
    · unfold tellsC
      rw [hmay _ (by unfold leastV placesE; simp; try omega) (by unfold bareE; simp)]
      simp
      try omega
    · dsimp only
      omega
  · rw [if_neg (by decide), if_neg (by decide), if_neg (by decide), if_pos (by decide)] at h
    obtain ⟨⟨nb, rb⟩, hB⟩ : ∃ x, numR ⟨s, at_ + (putN n).length, 0⟩ ((S - 1).toNat) = x := ⟨_, rfl⟩
    rw [hB] at h
    dsimp only at h
    obtain ⟨rfl, rfl⟩ := Prod.mk.inj h
    obtain ⟨rfl, g2, g3, g4⟩ := one_back hs hB he
    obtain ⟨j1, j2⟩ := join_back (T := T) (c := c) (e := ⟨6, th, 0, nb, 0, 0, 0⟩) (n := n) (q := [nb]) q3 (by unfold numsC; dsimp only; rw [if_neg (by decide), if_neg (by decide), if_neg (by decide), if_pos (by decide), Int.toNat_natCast]) p2 g2 rfl
    refine ⟨?_, ?_, j1, j2⟩
    · unfold tellsC
      rw [hmay _ (by unfold leastV placesE; simp; try omega) (by unfold bareE; simp)]
      simp
      try omega
    · dsimp only
      omega
  · rw [if_neg (by decide), if_neg (by decide), if_neg (by decide), if_neg (by decide), if_neg (by decide), if_pos (by decide)] at h
    obtain ⟨⟨nb, rb⟩, hB⟩ : ∃ x, numR ⟨s, at_ + (putN n).length, 0⟩ 1 = x := ⟨_, rfl⟩
    rw [hB] at h
    dsimp only at h
    by_cases h0 : nb = 0
    · rw [if_pos h0] at h
      obtain ⟨rfl, rfl⟩ := Prod.mk.inj h
      obtain ⟨rfl, g2, g3, g4⟩ := one_back hs hB he
      obtain ⟨j1, j2⟩ := join_back (T := T) (c := c) (e := ⟨7, th, 0, 0, 0, 0, 0⟩) (n := n) (q := [nb]) q3 (by unfold numsC; dsimp only; rw [if_neg (by decide), if_neg (by decide), if_neg (by decide), if_neg (by decide), if_neg (by decide), if_pos (by decide), if_pos rfl, h0]) p2 g2 rfl
      refine ⟨?_, ?_, j1, j2⟩
      · unfold tellsC
        rw [hmay _ (by unfold leastV placesE; simp; try omega) (by unfold bareE; simp)]
        simp
      · dsimp only
        omega
    · rw [if_neg h0] at h
      have hbz : c.bumped th ≠ 0 := by
        intro hz
        rw [if_pos hz] at h
        obtain ⟨-, rfl⟩ := Prod.mk.inj h
        unfold failR at he
        split at he
        · rename_i hne; exact hne he
        · simp at he
      rw [if_neg hbz] at h
      obtain ⟨rfl, rfl⟩ := Prod.mk.inj h
      obtain ⟨rfl, g2, g3, g4⟩ := one_back hs hB he
      obtain ⟨j1, j2⟩ := join_back (T := T) (c := c) (e := ⟨7, th, 0, 0, c.bumped th, 0, 0⟩) (n := n) (q := [nb]) q3 (by unfold numsC; dsimp only; rw [if_neg (by decide), if_neg (by decide), if_neg (by decide), if_neg (by decide), if_neg (by decide), if_pos (by decide), if_neg hbz, show nb = 1 by omega]) p2 g2 rfl
      refine ⟨?_, ?_, j1, j2⟩
      · unfold tellsC
        rw [hmay _ (by unfold leastV placesE; simp; try omega) (by unfold bareE; simp)]
        simp
      · dsimp only
        omega
  · rw [if_neg (by decide), if_neg (by decide), if_pos (by decide)] at h
    obtain ⟨⟨nb, rb⟩, hB⟩ : ∃ x, numR ⟨s, at_ + (putN n).length, 0⟩ ((V - 1).toNat) = x := ⟨_, rfl⟩
    rw [hB] at h
    dsimp only at h
    obtain ⟨⟨nd, rd⟩, hD⟩ : ∃ x, numR rb (maxU) = x := ⟨_, rfl⟩
    rw [hD] at h
    dsimp only at h
    obtain ⟨rfl, rfl⟩ := Prod.mk.inj h
    obtain ⟨rfl, g2, g3, g4, g5, g6⟩ := two_back hs hB hD he
    have hz := zag_ok nd g6
    have hx := hxs nb
    obtain ⟨j1, j2⟩ := join_back (T := T) (c := c) (e := ⟨8, th, 0, nb, 0, w64 (c.x nb + zagZ nd), 0⟩) (n := n) (q := [nb, nd]) q3 (by unfold numsC; dsimp only; rw [if_neg (by decide), if_neg (by decide), if_pos (by decide), Int.toNat_natCast, w64_diff _ _ hz, zig_zag]) p2 g2 rfl
    refine ⟨?_, ?_, j1, j2⟩
    · unfold tellsC
      rw [hmay _ (by unfold leastV placesE; simp; try omega) (by unfold bareE; simp)]
      simp
      try omega
    · dsimp only
      exact w64_ok _
  · rw [if_neg (by decide), if_neg (by decide), if_neg (by decide), if_pos (by decide)] at h
    obtain ⟨⟨nb, rb⟩, hB⟩ : ∃ x, numR ⟨s, at_ + (putN n).length, 0⟩ ((S - 1).toNat) = x := ⟨_, rfl⟩
    rw [hB] at h
    dsimp only at h
    obtain ⟨rfl, rfl⟩ := Prod.mk.inj h
    obtain ⟨rfl, g2, g3, g4⟩ := one_back hs hB he
    obtain ⟨j1, j2⟩ := join_back (T := T) (c := c) (e := ⟨9, th, 0, nb, 0, 0, 0⟩) (n := n) (q := [nb]) q3 (by unfold numsC; dsimp only; rw [if_neg (by decide), if_neg (by decide), if_neg (by decide), if_pos (by decide), Int.toNat_natCast]) p2 g2 rfl
    refine ⟨?_, ?_, j1, j2⟩
    · unfold tellsC
      rw [hmay _ (by unfold leastV placesE; simp; try omega) (by unfold bareE; simp)]
      simp
      try omega
    · dsimp only
      omega
  · rw [if_neg (by decide), if_neg (by decide), if_neg (by decide), if_neg (by decide), if_neg (by decide), if_neg (by decide), if_pos (by decide)] at h
    obtain ⟨⟨nb, rb⟩, hB⟩ : ∃ x, numR ⟨s, at_ + (putN n).length, 0⟩ 5 = x := ⟨_, rfl⟩
    rw [hB] at h
    dsimp only at h
    by_cases h00 : nb + 1 = 6
    · rw [if_pos h00] at h
      have h0 : (nb : Int) + 1 = 6 := by omega
      obtain ⟨rfl, rfl⟩ := Prod.mk.inj h
      obtain ⟨rfl, g2, g3, g4⟩ := one_back hs hB he
      obtain ⟨j1, j2⟩ := join_back (T := T) (c := c) (e := ⟨10, th, 0, 0, 0, 0, (nb : Int) + 1⟩) (n := n) (q := [nb]) q3 (by unfold numsC; dsimp only; rw [if_neg (by decide), if_neg (by decide), if_neg (by decide), if_neg (by decide), if_neg (by decide), if_neg (by decide), if_pos (by decide), if_pos h0, show ((nb : Int) + 1 - 1).toNat = nb by omega]) p2 g2 rfl
      refine ⟨?_, ?_, j1, j2⟩
      · unfold tellsC
        rw [hmay _ (by unfold leastV placesE; simp [h0]; try omega) (by unfold bareE; simp)]
        simp
      · dsimp only
        omega
    · rw [if_neg h00] at h
      have h0 : ¬ (nb : Int) + 1 = 6 := by omega
      obtain ⟨⟨nd, rd⟩, hD⟩ : ∃ x, numR rb (S - 1).toNat = x := ⟨_, rfl⟩
      rw [hD] at h
      dsimp only at h
      obtain ⟨rfl, rfl⟩ := Prod.mk.inj h
      obtain ⟨rfl, g2, g3, g4, g5, g6⟩ := two_back hs hB hD he
      obtain ⟨j1, j2⟩ := join_back (T := T) (c := c) (e := ⟨10, th, 0, nd, 0, 0, (nb : Int) + 1⟩) (n := n) (q := [nb, nd]) q3 (by unfold numsC; dsimp only; rw [if_neg (by decide), if_neg (by decide), if_neg (by decide), if_neg (by decide), if_neg (by decide), if_neg (by decide), if_pos (by decide), if_neg h0, show ((nb : Int) + 1 - 1).toNat = nb by omega, Int.toNat_natCast]) p2 g2 rfl
      refine ⟨?_, ?_, j1, j2⟩
      · unfold tellsC
        rw [hmay _ (by unfold leastV placesE; simp [h0]; try omega) (by unfold bareE; simp)]
        simp
      · dsimp only
        omega
  · rw [if_neg (by decide), if_neg (by decide), if_neg (by decide), if_pos (by decide)] at h
    obtain ⟨⟨nb, rb⟩, hB⟩ : ∃ x, numR ⟨s, at_ + (putN n).length, 0⟩ ((S - 1).toNat) = x := ⟨_, rfl⟩
    rw [hB] at h
    dsimp only at h
    obtain ⟨rfl, rfl⟩ := Prod.mk.inj h
    obtain ⟨rfl, g2, g3, g4⟩ := one_back hs hB he
    obtain ⟨j1, j2⟩ := join_back (T := T) (c := c) (e := ⟨11, th, 0, nb, 0, 0, 0⟩) (n := n) (q := [nb]) q3 (by unfold numsC; dsimp only; rw [if_neg (by decide), if_neg (by decide), if_neg (by decide), if_pos (by decide), Int.toNat_natCast]) p2 g2 rfl
    refine ⟨?_, ?_, j1, j2⟩
    · unfold tellsC
      rw [hmay _ (by unfold leastV placesE; simp; try omega) (by unfold bareE; simp)]
      simp
      try omega
    · dsimp only
      omega
  · rw [if_neg (by decide), if_neg (by decide), if_neg (by decide), if_neg (by decide), if_neg (by decide), if_neg (by decide), if_neg (by decide)] at h
    obtain ⟨rfl, rfl⟩ := Prod.mk.inj h
    have g2 : (s.drop (at_ + (putN n).length)).take (([] : List Nat).flatMap putN).length = ([] : List Nat).flatMap putN := by simp
    obtain ⟨j1, j2⟩ := join_back (T := T) (c := c) (e := ⟨12, th, 0, 0, 0, 0, 0⟩) (n := n) (q := []) q3 (by unfold numsC; dsimp only; rw [if_neg (by decide), if_neg (by decide), if_neg (by decide), if_neg (by decide), if_neg (by decide), if_neg (by decide), if_neg (by decide)]) p2 g2 rfl
    refine ⟨?_, ?_, j1, j2⟩
    · unfold tellsC
      rw [hmay _ (by unfold leastV placesE; simp; try omega) (by unfold bareE; simp)]
      simp
      try omega
    · dsimp only
      omega
  · rw [if_neg (by decide), if_neg (by decide), if_neg (by decide), if_neg (by decide), if_neg (by decide), if_neg (by decide), if_neg (by decide)] at h
    obtain ⟨rfl, rfl⟩ := Prod.mk.inj h
    have g2 : (s.drop (at_ + (putN n).length)).take (([] : List Nat).flatMap putN).length = ([] : List Nat).flatMap putN := by simp
    obtain ⟨j1, j2⟩ := join_back (T := T) (c := c) (e := ⟨13, th, 0, 0, 0, 0, 0⟩) (n := n) (q := []) q3 (by unfold numsC; dsimp only; rw [if_neg (by decide), if_neg (by decide), if_neg (by decide), if_neg (by decide), if_neg (by decide), if_neg (by decide), if_neg (by decide)]) p2 g2 rfl
    refine ⟨?_, ?_, j1, j2⟩
    · unfold tellsC
      rw [hmay _ (by unfold leastV placesE; simp; try omega) (by unfold bareE; simp)]
      simp
      try omega
    · dsimp only
      omega
end Go.Proofs.YtokkafiphchejaaDoor
