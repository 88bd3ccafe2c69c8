/-
  Walks: numbers out of bytes: varint.Get, and the document's.
-/
import Derived.Test.YtokkafiphchejaaDoorDeV3
namespace Go.Proofs.YtokkafiphchejaaDoor
set_option linter.unusedVariables false
open Go Go.RowKit

theorem byt_get (s : ByteArray) (i : Nat) (h : i < s.size) : (byt s).drop i = s[i].toNat :: (byt s).drop (i + 1) := by
  have hl : i < (byt s).length := by rw [byt_len]; exact h
  rw [List.drop_eq_getElem_cons hl]
  congr 1
  simp [byt]
  rfl
theorem byt_end (s : ByteArray) : (byt s).drop s.size = [] := List.drop_eq_nil_of_le (by rw [byt_len]; exact Nat.le_refl _)
theorem pow128 (k : Nat) : 128 ^ k = 2 ^ (7 * k) := by rw [Nat.pow_mul]
theorem or_shift (acc k c : Nat) (hc : c < 256) (ha : acc < 128 ^ k) (hk : k ≤ 9) (h9 : k = 9 → c ≤ 1) :
    bits .or .u64 (acc : Int) (IntKind.u64.wrap (IntKind.u64.wrap (bits .andNot .u8 (c : Int) 128) * 2 ^ (7 * k))) = ((acc + c % 128 * 128 ^ k : Nat) : Int) := by
  rw [andn128 c hc, pow128] at *
  have hp : 2 ^ (7 * k) ≤ 2 ^ 63 := Nat.pow_le_pow_right (by decide) (by omega)
  have hd : c % 128 * 2 ^ (7 * k) < 2 ^ 64 := by
    by_cases h : k = 9
    · subst h
      have := h9 rfl
      have : c % 128 ≤ 1 := by omega
      calc c % 128 * 2 ^ (7 * 9) ≤ 1 * 2 ^ (7 * 9) := Nat.mul_le_mul_right _ this
        _ < 2 ^ 64 := by decide
    · have h2 : 2 ^ (7 * k) ≤ 2 ^ 56 := Nat.pow_le_pow_right (by decide) (by omega)
      calc c % 128 * 2 ^ (7 * k) ≤ 127 * 2 ^ 56 := Nat.mul_le_mul (by omega) h2
        _ < 2 ^ 64 := by decide
  have p63 : (2 : Nat) ^ 63 = 9223372036854775808 := by decide
  have p64 : (2 : Nat) ^ 64 = 18446744073709551616 := by decide
  rw [p63] at hp
  rw [p64] at hd
  have e1 : IntKind.u64.wrap ((c % 128 : Nat) : Int) = ((c % 128 : Nat) : Int) := by rw [IntKind.wrap_u64]; omega
  have e2 : ((c % 128 : Nat) : Int) * 2 ^ (7 * k) = ((c % 128 * 2 ^ (7 * k) : Nat) : Int) := by simp
  rw [e1, e2]
  generalize hq : c % 128 * 2 ^ (7 * k) = q at *
  have e3 : IntKind.u64.wrap (q : Int) = (q : Int) := by rw [IntKind.wrap_u64]; omega
  rw [e3, u64_or_nat _ _ (by omega) hd]
  congr 1
  rw [← hq, Nat.or_comm, Nat.mul_comm (c % 128), ← Nat.two_pow_add_eq_or_of_lt ha, Nat.add_comm]
theorem get_step {l bs : List Nat} {m k acc c : Nat} (h : getN l = getF (m + 1) k acc (128 ^ k) (c :: bs)) (h9 : k = 9 → c ≤ 1) (hc : 128 ≤ c) : getN l = getF m (k + 1) (acc + c % 128 * 128 ^ k) (128 ^ (k + 1)) bs ∨ 256 ≤ c := by
  rcases Nat.lt_or_ge c 256 with h2 | h2
  · left
    have e1 : ¬ (k = 9 ∧ 1 < c) := fun ⟨h3, h4⟩ => by have := h9 h3; omega
    have e2 : ¬ c < 128 := by omega
    rw [h]
    simp only [getF, e1, e2, if_false]
    rw [show c - 128 = c % 128 by omega, Nat.pow_succ]
  · exact Or.inr h2

set_option maxRecDepth 100000 in
set_option maxHeartbeats 4000000 in
theorem get_any (s : ByteArray) (w : World) (hs : s.size ≤ 9223372036854775807) : Calls Tryd.prog 70 #[.string s] w fun e' w' =>
    e' = .returned (.tuple #[.int .u64 (getN (byt s)).1, .int .i64 (getN (byt s)).2.1, .int .i64 (getN (byt s)).2.2]) ∧ w = w' := by
  go_enter Tryd.func70, Tryd.ntmps70
  go_wp2_with fail
  go_loop [2, 6] (fun n i => ∃ (k acc : Nat), k ≤ 10 ∧ k ≤ s.size ∧ i = .int .i64 k ∧ n = .int .u64 acc ∧ Hid (getN (byt s) = getF (10 - k) k acc (128 ^ k) ((byt s).drop k) ∧ acc < 128 ^ k)) (fun _ i => 10 - (intOf i).toNat)
  case atStart => exact ⟨0, 0, by omega, by omega, rfl, rfl, hid ⟨by simp [getN], by simp⟩⟩
  case round =>
    obtain ⟨k, acc, hk, hks, rfl, rfl, HG⟩ := hrel
    by_cases hlt : k < 10
    · obtain ⟨m, hm⟩ : ∃ m, 10 - k = m + 1 := ⟨9 - k, by omega⟩
      by_cases hend : k = s.size
      · have ht : ((k : Int) == (s.size : Int)) = true := by rw [beq_iff_eq]; omega
        have hG : getN (byt s) = (0, 0, 8) := by
          rw [HG.out.1, hm, hend, byt_end]; rfl
        have HG := hid hG
        clear hend hG hm
        go_wp2_with fail
        go_ret3
        rw [HG.out]
        exact ⟨rfl, rfl⟩
      · have hks2 : k < s.size := by omega
        have ht : ((k : Int) == (s.size : Int)) = false := by rw [beq_eq_false_iff_ne]; omega
        have hG := HG.out.1
        rw [byt_get s k hks2, hm] at hG
        have HA := hid HG.out.2
        have HM := hid hm
        have hc := s[k].toNat_lt
        have hpos : (0 : Int) ≤ (k : Int) := by omega
        have hk9 : (k : Int) ≤ 9 := by omega
        have h7 : (7 * (k : Int)) ≤ 63 := by omega
        have h70 : (0 : Int) ≤ 7 * (k : Int) := by omega
        have HGG := hid hG
        clear HG hm hend hG
        by_cases herr : k = 9 ∧ 1 < s[k].toNat
        · have g1 : ((k : Int) == 9) = true := by rw [beq_iff_eq]; omega
          have g2 : (1 : Int) < (s[k].toNat : Int) := by omega
          have HE : Hid (getN (byt s) = (0, 0, 20)) := hid (by rw [HGG.out]; simp only [getF]; rw [if_pos herr])
          clear herr
          go_wp2_with fail
          go_ret3
          rw [HE.out]
          exact ⟨rfl, rfl⟩
        · have h9 : k = 9 → s[k].toNat ≤ 1 := fun h => by omega
          have hOR := or_shift acc k s[k].toNat hc HA.out (by omega) h9
          obtain ⟨a2, ha2⟩ : ∃ a2 : Nat, a2 = acc + s[k].toNat % 128 * 128 ^ k := ⟨_, rfl⟩
          rw [← ha2] at hOR
          have HA2 := hid ha2
          have H9 := hid h9
          clear ha2 h9
          have hp : ((k : Int) == 9) = false ∨ (((k : Int) == 9) = true ∧ ¬ ((1 : Int) < (s[k].toNat : Int))) := by
            by_cases h : k = 9
            · exact Or.inr ⟨by rw [beq_iff_eq]; omega, by have := H9.out h; omega⟩
            · exact Or.inl (by rw [beq_eq_false_iff_ne]; omega)
          have HERR := hid herr
          clear herr
          rcases hp with hp | ⟨hp, hp2⟩
          all_goals
            by_cases hge : 128 ≤ s[k].toNat
            · have hand : bits .and .u8 (s[k].toNat : Int) 128 = 128 := by rw [and128 _ hc, if_neg (by omega)]
              have HST := hid ((get_step HGG.out H9.out hge).resolve_right (by omega))
              have HGE := hid hge
              clear hge
              go_wp2_with fail
              go_round
              case rel => exact ⟨k + 1, a2, by omega, by omega, by go_num, rfl, hid ⟨by rw [HST.out, show 10 - (k + 1) = m by have := HM.out; omega, HA2.out], by
                have h1 := HA.out
                rw [HA2.out, Nat.pow_succ]
                have h2 : s[k].toNat % 128 * 128 ^ k ≤ 127 * 128 ^ k := Nat.mul_le_mul_right _ (by omega)
                omega⟩⟩
              case measure => simp [intOf]; omega
            · have hand : bits .and .u8 (s[k].toNat : Int) 128 = 0 := by rw [and128 _ hc, if_pos (by omega)]
              have hlt7 : s[k].toNat < 128 := by omega
              have HLT := hid hlt7
              by_cases hw : 0 < k ∧ s[k].toNat = 0
              · have g3 : (0 : Int) < (k : Int) := by omega
                have g4 : ((s[k].toNat : Int) == 0) = true := by rw [beq_iff_eq]; omega
                have HE : Hid (getN (byt s) = (0, 0, 11)) := hid (by rw [HGG.out]; simp only [getF]; rw [if_neg HERR.out, if_pos hlt7, if_pos ⟨hw.2, hw.1⟩])
                clear hw hge hlt7
                go_wp2_with fail
                go_ret3
                rw [HE.out]
                exact ⟨rfl, rfl⟩
              · have HE : Hid (getN (byt s) = (a2, k + 1, 0)) := hid (by
                  rw [HGG.out]; simp only [getF]
                  rw [if_neg HERR.out, if_pos hlt7, if_neg (fun h => hw ⟨h.2, h.1⟩), HA2.out, Nat.mod_eq_of_lt hlt7])
                have hpq : (¬ ((0 : Int) < (k : Int)) ∧ decide (0 < k) = false) ∨ ((0 : Int) < (k : Int) ∧ ((s[k].toNat : Int) == 0) = false) := by
                  by_cases h : 0 < k
                  · exact Or.inr ⟨by omega, by rw [beq_eq_false_iff_ne]; omega⟩
                  · exact Or.inl ⟨by omega, by simp; omega⟩
                clear hw hge hlt7
                rcases hpq with ⟨hq, hq2⟩ | ⟨hq, hq2⟩
                all_goals
                  go_wp2_with fail
                  go_ret3
                  rw [HE.out]
                  exact ⟨by simp, rfl⟩
    · obtain rfl : k = 10 := by omega
      have HE : Hid (getN (byt s) = (0, 0, 20)) := hid (by rw [HG.out.1]; simp only [Nat.sub_self, getF])
      go_wp2_with fail
      go_ret3
      rw [HE.out]
      exact ⟨rfl, rfl⟩

theorem ret_three {k1 k2 k3 : IntKind} {a b c d e f : Int} (h1 : a = b) (h2 : c = d) (h3 : e = f) : Ending.returned (.tuple #[.int k1 a, .int k2 c, .int k3 e]) = .returned (.tuple #[.int k1 b, .int k2 d, .int k3 f]) := by rw [h1, h2, h3]
theorem get_room {acc k c : Nat} (hc : c < 256) (h1 : acc < 128 ^ k) (hk : k ≤ 9) (h9 : k = 9 → c ≤ 1) : c % 128 * 128 ^ k < 18446744073709551616 ∧ acc + c % 128 * 128 ^ k < 18446744073709551616 ∧ 128 ^ k ≤ 9223372036854775808 := by
  have p63 : (128 : Nat) ^ 9 = 9223372036854775808 := by decide
  have p56 : (128 : Nat) ^ 8 = 72057594037927936 := by decide
  by_cases h : k = 9
  · have h2 := h9 h
    rw [h, p63] at h1 ⊢
    have : c % 128 ≤ 1 := by omega
    have h3 : c % 128 * 9223372036854775808 ≤ 1 * 9223372036854775808 := Nat.mul_le_mul_right _ this
    omega
  · have h2 : 128 ^ k ≤ 128 ^ 8 := Nat.pow_le_pow_right (by decide) (by omega)
    rw [p56] at h2
    have h3 : c % 128 * 128 ^ k ≤ 127 * 72057594037927936 := Nat.mul_le_mul (by omega) h2
    omega
theorem get_unit {k uu : Nat} (h : uu = 128 ^ k) : ∃ u2 : Nat, IntKind.u64.wrap ((uu : Int) * 128) = (u2 : Int) ∧ (k + 1 < 10 → u2 = 128 ^ (k + 1)) := by
  refine ⟨uu * 128 % 18446744073709551616, by rw [IntKind.wrap_u64]; omega, fun hk => ?_⟩
  have p63 : (128 : Nat) ^ 9 = 9223372036854775808 := by decide
  have h2 : 128 ^ (k + 1) ≤ 128 ^ 9 := Nat.pow_le_pow_right (by decide) (by omega)
  rw [p63] at h2
  rw [h, ← Nat.pow_succ, Nat.mod_eq_of_lt (by omega)]

set_option maxRecDepth 100000 in
set_option maxHeartbeats 4000000 in
theorem rget_any (s : ByteArray) (w : World) (hs : s.size ≤ 9223372036854775807) : Calls Tryd.prog 78 #[.string s] w fun e' w' =>
    e' = .returned (.tuple #[.int .u64 (getN (byt s)).1, .int .i64 (getN (byt s)).2.1, .int .i64 (getN (byt s)).2.2]) ∧ w = w' := by
  go_enter Tryd.func78, Tryd.ntmps78
  go_wp2_with fail
  go_loop [5, 6, 7] (fun n u i => ∃ (k acc : Nat), k ≤ 10 ∧ k ≤ s.size ∧ i = .int .i64 k ∧ n = .int .u64 acc ∧ (∃ uu : Nat, u = .int .u64 uu ∧ Hid (k < 10 → uu = 128 ^ k)) ∧ Hid (getN (byt s) = getF (10 - k) k acc (128 ^ k) ((byt s).drop k) ∧ acc < 128 ^ k)) (fun _ _ i => 10 - (intOf i).toNat)
  case atStart => exact ⟨0, 0, by omega, by omega, rfl, rfl, ⟨1, rfl, hid (by simp)⟩, hid ⟨by simp [getN], by simp⟩⟩
  case round =>
    obtain ⟨k, acc, hk, hks, rfl, rfl, ⟨uu, rfl, HU⟩, HG⟩ := hrel
    by_cases hlt : k < 10
    · obtain ⟨m, hm⟩ : ∃ m, 10 - k = m + 1 := ⟨9 - k, by omega⟩
      by_cases hend : k = s.size
      · have ht : (s.size : Int) ≤ (k : Int) := by omega
        have ht2 : decide (s.size ≤ k) = true := by simp; omega
        have hG : getN (byt s) = (0, 0, 8) := by
          rw [HG.out.1, hm, hend, byt_end]; rfl
        have HG := hid hG
        clear hend hG hm
        go_wp2_with fail
        go_ret3
        rw [HG.out]
        exact ⟨rfl, rfl⟩
      · have hks2 : k < s.size := by omega
        have hG := HG.out.1
        rw [byt_get s k hks2, hm] at hG
        have HA := hid HG.out.2
        have HM := hid hm
        have hc := s[k].toNat_lt
        have hpos : (0 : Int) ≤ (k : Int) := by omega
        have hk9 : (k : Int) ≤ 9 := by omega
        have HGG := hid hG
        clear HG hm hend hG
        by_cases herr : k = 9 ∧ 1 < s[k].toNat
        · have g1 : ((k : Int) == 9) = true := by rw [beq_iff_eq]; omega
          have g2 : (1 : Int) < (s[k].toNat : Int) := by omega
          have HE : Hid (getN (byt s) = (0, 0, 20)) := hid (by rw [HGG.out]; simp only [getF]; rw [if_pos herr])
          clear herr
          go_wp2_with fail
          go_ret3
          rw [HE.out]
          exact ⟨rfl, rfl⟩
        · have h9 : k = 9 → s[k].toNat ≤ 1 := fun h => by omega
          have hmul := get_room hc HA.out (by omega) h9
          rw [← HU.out hlt] at hmul
          obtain ⟨a2, ha2⟩ : ∃ a2 : Nat, a2 = acc + s[k].toNat % 128 * 128 ^ k := ⟨_, rfl⟩
          have HA2 := hid ha2
          have H9 := hid h9
          have HMUL := hid hmul
          clear ha2 h9 hmul
          have hp : ((k : Int) == 9) = false ∨ (((k : Int) == 9) = true ∧ ¬ ((1 : Int) < (s[k].toNat : Int)) ∧ Hid (k = 9)) := by
            by_cases h : k = 9
            · exact Or.inr ⟨by rw [beq_iff_eq]; omega, by have := H9.out h; omega, hid h⟩
            · exact Or.inl (by rw [beq_eq_false_iff_ne]; omega)
          have HERR := hid herr
          clear herr
          rcases hp with hp | ⟨hp, hp2, H9E⟩
          all_goals
            by_cases hge : 128 ≤ s[k].toNat
            · first
                | (exfalso; have h := H9E.out; have := H9.out h; omega)
                | skip
              all_goals
                have hge2 : (128 : Int) ≤ (s[k].toNat : Int) := by omega
                have hc2 : (s[k].toNat : Int) < 256 := by omega
                have HST := hid ((get_step HGG.out H9.out hge).resolve_right (by omega))
                have HN1 : Hid (IntKind.u64.wrap ((acc : Int) + IntKind.u64.wrap (((s[k].toNat : Int) - 128) * (uu : Int))) = (a2 : Int)) := hid (by
                  have e1 : (s[k].toNat : Int) - 128 = ((s[k].toNat % 128 : Nat) : Int) := by omega
                  have h1 := HMUL.out
                  rw [e1, ← Int.natCast_mul, IntKind.wrap_u64, IntKind.wrap_u64, HA2.out, ← HU.out hlt]
                  omega)
                have HN2 : Hid (∃ u2 : Nat, IntKind.u64.wrap ((uu : Int) * 128) = (u2 : Int) ∧ (k + 1 < 10 → u2 = 128 ^ (k + 1))) := hid (get_unit (HU.out hlt))
                have HGE := hid hge
                clear hge
                go_wp2_with fail
                obtain ⟨u2, hu1, hu2⟩ := HN2.out
                refine ⟨⟨k + 1, a2, by omega, by omega, by go_num, by rw [HN1.out], ⟨u2, by rw [hu1], hid hu2⟩, hid ⟨by rw [HST.out, show 10 - (k + 1) = m by have := HM.out; omega, HA2.out], ?_⟩⟩, by simp [intOf]; omega⟩
                have h1 := HA.out
                rw [HA2.out, Nat.pow_succ]
                have h2 : s[k].toNat % 128 * 128 ^ k ≤ 127 * 128 ^ k := Nat.mul_le_mul_right _ (by omega)
                omega
            · have hlt7 : (s[k].toNat : Int) < 128 := by omega
              have hcc0 : (0 : Int) ≤ (s[k].toNat : Int) := by omega
              have HLT : Hid (s[k].toNat < 128) := hid (by omega)
              by_cases hw : s[k].toNat = 0 ∧ 0 < k
              · have g3 : (0 : Int) < (k : Int) := by omega
                have g4 : ((s[k].toNat : Int) == 0) = true := by rw [beq_iff_eq]; omega
                have HE : Hid (getN (byt s) = (0, 0, 11)) := hid (by rw [HGG.out]; simp only [getF]; rw [if_neg HERR.out, if_pos HLT.out, if_pos hw])
                clear hw hge
                go_wp2_with fail
                go_ret3
                rw [HE.out]
                exact ⟨rfl, rfl⟩
              · have HE : Hid (getN (byt s) = (a2, k + 1, 0)) := hid (by
                  rw [HGG.out]; simp only [getF]
                  rw [if_neg HERR.out, if_pos HLT.out, if_neg hw, HA2.out, Nat.mod_eq_of_lt HLT.out])
                have HN1 : Hid (IntKind.u64.wrap ((acc : Int) + IntKind.u64.wrap ((s[k].toNat : Int) * (uu : Int))) = (a2 : Int)) := hid (by
                  have e1 : (s[k].toNat : Int) = ((s[k].toNat % 128 : Nat) : Int) := by omega
                  have h1 := HMUL.out
                  rw [e1, ← Int.natCast_mul, IntKind.wrap_u64, IntKind.wrap_u64, HA2.out, ← HU.out hlt]
                  omega)
                have hpq : (((s[k].toNat : Int) == 0) = false) ∨ (((s[k].toNat : Int) == 0) = true ∧ ¬ ((0 : Int) < (k : Int)) ∧ decide (0 < k) = false) := by
                  by_cases h : s[k].toNat = 0
                  · exact Or.inr ⟨by rw [beq_iff_eq]; omega, by omega, by simp; omega⟩
                  · exact Or.inl (by rw [beq_eq_false_iff_ne]; omega)
                clear hw hge
                rcases hpq with hq | ⟨hq, hq2, hq3⟩
                all_goals
                  go_wp2_with fail
                  go_ret3
                  rw [HE.out]
                  exact ⟨ret_three HN1.out (by simp) rfl, rfl⟩
    · obtain rfl : k = 10 := by omega
      have HE : Hid (getN (byt s) = (0, 0, 20)) := hid (by rw [HG.out.1]; simp only [Nat.sub_self, getF])
      go_wp2_with fail
      go_ret3
      rw [HE.out]
      exact ⟨rfl, rfl⟩
end Go.Proofs.YtokkafiphchejaaDoor
