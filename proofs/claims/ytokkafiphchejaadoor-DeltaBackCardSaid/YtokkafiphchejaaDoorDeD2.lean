/-
  More of events as bytes: what a coder knows stays in bounds; how long an event's bytes are; a number that was read. Nothing of the program.
-/
import Derived.Test.YtokkafiphchejaaDoorDeD
namespace Go.Proofs.YtokkafiphchejaaDoor
set_option linter.unusedVariables false
theorem okC_knows {T V S : Int} {c : Cdr} {e : Ev} (hc : OkC T c) (ht : tellsC T V S c e = true) (hx : -9223372036854775808 ≤ e.x ∧ e.x ≤ 9223372036854775807) : OkC T (knowsC c e) := by
  unfold tellsC at ht
  rw [Bool.and_eq_true] at ht
  obtain ⟨hm, hk2⟩ := ht
  obtain ⟨hs, ⟨k1, k2, hw, t1, t2, x1, x2, v1, v2, a1, a2⟩, hb⟩ := may_sizes' hm
  have hl : 0 ≤ leastV e := by unfold leastV; split <;> omega
  have hv : 0 ≤ e.v ∧ e.v ≤ maxClockN := by unfold maxClockN; omega
  unfold knowsC
  split
  · exact ⟨⟨t1, t2⟩, hv, upd_ok hc.begun hv, hc.bumped, hc.xs⟩
  · split
    · exact ⟨⟨t1, t2⟩, hv, hc.begun, upd_ok hc.bumped hv, hc.xs⟩
    · split
      · exact ⟨⟨t1, t2⟩, hc.clock, hc.begun, hc.bumped, upd_ok hc.xs hx⟩
      · exact ⟨⟨t1, t2⟩, hc.clock, hc.begun, hc.bumped, hc.xs⟩
theorem putF_few : ∀ (m k n : Nat), n < 128 ^ (k + 1) → (putF m n).length ≤ k + 1
  | 0, k, n, h => by simp [putF]
  | m + 1, k, n, h => by
    unfold putF
    split
    · simp
    · match k with
      | 0 => simp at h; omega
      | k + 1 =>
        have := putF_few m k (n / 128) (by rw [Nat.pow_succ] at h; omega)
        simp; omega
theorem putN_few (k n : Nat) (h : n < 128 ^ (k + 1)) : (putN n).length ≤ k + 1 := putF_few 10 k n h
theorem putN_ten (n : Nat) : (putN n).length ≤ 10 := putF_len 10 n
theorem putN_one (n : Nat) (h : n < 128) : (putN n).length = 1 := by
  unfold putN putF
  rw [if_pos h]; rfl
theorem flat_two {a b : Nat} {k : Nat} (h1 : (putN a).length ≤ 1) (h2 : (putN b).length ≤ k) : ([a, b].flatMap putN).length ≤ 1 + k := by
  simp only [List.flatMap_cons, List.flatMap_nil, List.append_nil, List.length_append]
  omega
/-- How many bytes an event has. -/
theorem bytes_len {T V S : Int} {c : Cdr} {e : Ev} (hc : OkC T c) (ht : tellsC T V S c e = true) : 1 ≤ (bytesC T c e).length ∧ (bytesC T c e).length ≤ 12 := by
  unfold tellsC at ht
  rw [Bool.and_eq_true] at ht
  obtain ⟨hm, hk2⟩ := ht
  obtain ⟨hs, ⟨k1, k2, hw, t1, t2, x1, x2, v1, v2, a1, a2⟩, hb⟩ := may_sizes' hm
  obtain ⟨f1, f2, -, -⟩ := first_ok (T := T) (k := e.kind) (th := e.th) (last := c.last) ⟨by omega, by omega⟩ ⟨k1, k2⟩ ⟨t1, t2⟩ hc.last
  have hn1 : firstC T c e = (e.kind - 1) * T + (e.th - c.last + T) % T := rfl
  rw [← hn1] at f1 f2
  have hcl := hc.clock
  have hbg := hc.begun e.th
  unfold maxClockN at hcl hbg
  have h1 : (putN (firstC T c e).toNat).length = 1 := putN_one _ (by omega)
  have hp : placesE e V S ≤ 32 := by unfold placesE; split <;> (try split) <;> omega
  have ha : (putN e.at_.toNat).length ≤ 1 := by rw [putN_one _ (by omega)]; omega
  have hl : 0 ≤ leastV e := by unfold leastV; split <;> omega
  have hrest : ((numsC c e).flatMap putN).length ≤ 11 := by
    unfold numsC
    split
    · exact flat_two (by rw [putN_one _ (by omega)]; omega) (putN_ten _)
    · split
      · exact flat_two ha (putN_ten _)
      · split
        · exact flat_two ha (putN_ten _)
        · split
          · simp only [List.flatMap_cons, List.flatMap_nil, List.append_nil]; omega
          · split
            · simp only [List.flatMap_cons, List.flatMap_nil, List.append_nil]; have := putN_ten (e.v - c.clock).toNat; omega
            · split
              · simp only [List.flatMap_cons, List.flatMap_nil, List.append_nil]; have := putN_ten (if e.v = 0 then 0 else 1); omega
              · split
                · rename_i h10
                  have := hw h10
                  have hy : (putN (e.why - 1).toNat).length ≤ 1 := by rw [putN_one _ (by omega)]; omega
                  split
                  · simp only [List.flatMap_cons, List.flatMap_nil, List.append_nil]; omega
                  · exact Nat.le_trans (flat_two hy ha) (by omega)
                · simp
  unfold bytesC
  rw [List.flatMap_cons, List.length_append]
  omega
theorem numR_err {r : Rdr} {m : Nat} (h : r.err ≠ 0) : numR r m = (0, r) := by unfold numR; rw [if_pos h]
/-- A number that was read stands there. -/
theorem num_back {s : List Nat} {at_ most n : Nat} {r' : Rdr} (hs : ∀ b ∈ s, b < 256) (h : numR ⟨s, at_, 0⟩ most = (n, r')) (he : r'.err = 0) :
    r' = ⟨s, at_ + (putN n).length, 0⟩ ∧ (s.drop at_).take (putN n).length = putN n ∧ n ≤ most ∧ n < 18446744073709551616 ∧ at_ + (putN n).length ≤ max at_ s.length := by
  unfold numR at h
  rw [if_neg (by simp)] at h
  dsimp only at h
  obtain ⟨⟨n0, size, e⟩, hg⟩ : ∃ x, getN (s.drop at_) = x := ⟨_, rfl⟩
  rw [hg] at h
  dsimp only at h
  split at h
  · rename_i hne
    obtain ⟨rfl, rfl⟩ := Prod.mk.inj h
    exact absurd he hne
  · rename_i hne
    have he0 : e = 0 := by simpa using hne
    subst he0
    split at h
    · obtain ⟨rfl, rfl⟩ := Prod.mk.inj h
      simp at he
    · rename_i hle
      obtain ⟨rfl, rfl⟩ := Prod.mk.inj h
      obtain ⟨g1, g2, g3, g4, g5⟩ := put_get (fun b hb => hs b (List.mem_of_mem_drop hb)) hg
      have hl : (putN n0).length = size := by
        rw [← g1, List.length_take]
        omega
      rw [List.length_drop] at g4
      refine ⟨by rw [hl], by rw [hl]; exact g1, by omega, g5, by rw [hl]; omega⟩
end Go.Proofs.YtokkafiphchejaaDoor
