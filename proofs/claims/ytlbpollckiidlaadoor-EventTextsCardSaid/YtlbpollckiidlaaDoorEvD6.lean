/-
  The plain law: what the document's Parse comes to is what Parse comes to.
-/
import Derived.Test.YtlbpollckiidlaaDoorEvD5
import Derived.Test.YtlbpollckiidlaaDoorEvB
namespace Go.Proofs.YtlbpollckiidlaaDoor
set_option linter.unusedVariables false
set_option linter.unusedSimpArgs false
open Go Go.RowKit
theorem dig_len : ∀ (k u : Nat), u < 10 ^ (k + 1) → (Lib.decDigits u).length ≤ k + 1
  | 0, u, h => by rw [Lib.decDigits_one (by simpa using h)]; simp
  | k + 1, u, h => by
    rw [Lib.decDigits]
    split
    · simp
    · rw [List.length_append]
      have := dig_len k (u / 10) (by rw [Nat.pow_succ] at h; omega)
      simp; omega
theorem uacc_dig : ∀ (k u : Nat), u < k → u < 18446744073709551616 → uacc 0 (Lib.decDigits u) = u
  | 0, u, h, _ => by omega
  | k + 1, u, h, h2 => by
    rw [Lib.decDigits]
    split
    · rename_i h10
      unfold uacc uacc
      rw [ofNat_digit h10]
      omega
    · rename_i h10
      rw [uacc_snoc, uacc_dig k (u / 10) (by omega) (by omega), ofNat_digit (by omega)]
      omega
theorem dig_all (u : Nat) : (Lib.decDigits u).all isDig = true := by
  rw [List.all_eq_true]
  intro c hc
  have := digits_mem u c hc
  simp [isDig]; omega
theorem rnum_itoa (n : Int) (h0 : -9223372036854775808 ≤ n) (h1 : n ≤ 9223372036854775807) : rnum (Lib.itoa n) = (n, true) := by
  by_cases hn : n < 0
  · obtain ⟨u, hu⟩ := Int.eq_ofNat_of_zero_le (show 0 ≤ -n by omega)
    have hnu : n = -(u : Int) := by omega
    have hs : Lib.itoa n = 45 :: Lib.decDigits u := by rw [hnu]; exact Lib.itoa_neg u (by omega)
    rw [hs]
    have e1 : rnum (45 :: Lib.decDigits u) = rnumT true (Lib.decDigits u) (45 :: Lib.decDigits u) := by simp [rnum]
    rw [e1]
    have hx : xnum true (Lib.decDigits u) = n := by
      unfold xnum
      rw [uacc_dig (u + 1) u (by omega) (by omega), wrap_same, if_pos rfl, hnu]
      unfold wrap64; omega
    unfold rnumT
    rw [if_neg, hx, hs]
    · simp
    · rintro (h | h | h)
      · exact digits_ne u h
      · have := dig_len 18 u (by omega); omega
      · rw [dig_all] at h; cases h
  · obtain ⟨u, rfl⟩ := Int.eq_ofNat_of_zero_le (show 0 ≤ n by omega)
    have hs : Lib.itoa (u : Int) = Lib.decDigits u := Lib.itoa_nonneg u
    rw [hs]
    have e1 : rnum (Lib.decDigits u) = rnumT false (Lib.decDigits u) (Lib.decDigits u) := by
      cases hd : Lib.decDigits u with
      | nil => exact absurd hd (digits_ne u)
      | cons c r =>
        have hc := digits_mem u c (by rw [hd]; simp)
        have : c ≠ 45 := by rintro rfl; simp at hc
        exact if_neg this
    rw [e1]
    have hx : xnum false (Lib.decDigits u) = (u : Int) := by
      unfold xnum
      rw [uacc_dig (u + 1) u (by omega) (by omega), wrap_same, if_neg (by decide)]
      unfold wrap64; omega
    unfold rnumT
    rw [if_neg, hx, hs]
    · simp
    · rintro (h | h | h)
      · exact digits_ne u h
      · have := dig_len 18 u (by omega); omega
      · rw [dig_all] at h; cases h
theorem numAt_0 (x : List UInt8) (r : List (List UInt8)) : numAt (x :: r) 0 = rnum x := rfl
theorem numAt_1 (x y : List UInt8) (r : List (List UInt8)) : numAt (x :: y :: r) 1 = rnum y := rfl
theorem numAt_e (j : Nat) : numAt [] j = (0, true) := numAt_none (by simp)
theorem numAt_e1 (x : List UInt8) : numAt [x] 1 = (0, true) := numAt_none (by simp)
theorem rparse_show {e : Ev} (he : EvOk e) (hm : mayT e = true) : rparse (showT e) = (e, 0) := by
  have hm0 := hm
  obtain ⟨hk, hth, hb⟩ := mayT_of hm
  have hwhy : e.kind = 10 → 1 ≤ e.why ∧ e.why ≤ 6 := by
    unfold mayT mayE at hm
    simp only [Bool.and_eq_true, decide_eq_true_eq] at hm
    exact hm.1.2.2.2.1
  obtain ⟨n, hn⟩ := Int.eq_ofNat_of_zero_le (show 0 ≤ e.kind by omega)
  have hkn : kindOf (kindName e.kind) = some n := by
    unfold kindName
    rw [hn]
    exact kindOf_some (by omega) (by omega) rfl
  have ith := rnum_itoa e.th he.2.1.1 he.2.1.2
  have itx := rnum_itoa e.tx he.2.2.1.1 he.2.2.1.2
  have iat := rnum_itoa e.at_ he.2.2.2.1.1 he.2.2.2.1.2
  have iv := rnum_itoa e.v he.2.2.2.2.1.1 he.2.2.2.2.1.2
  have ix := rnum_itoa e.x he.2.2.2.2.2.1.1 he.2.2.2.2.2.1.2
  have iw := rnum_itoa e.why (by have := he.2.2.2.2.2.2; omega) (by have := he.2.2.2.2.2.2; omega)
  have key : ∀ r0 r1 : Int, (((rnum (Lib.itoa e.th)).2 && (numAt ((partsE e).map Lib.itoa) 0).2) && (numAt ((partsE e).map Lib.itoa) 1).2) = true → (numAt ((partsE e).map Lib.itoa) 0).1 = r0 → (numAt ((partsE e).map Lib.itoa) 1).1 = r1 → (n = 10 → 0 ≤ r0 ∧ r0 ≤ 9) → mkE n e.th r0 r1 = e → rparse (showT e) = (e, 0) := by
    intro r0 r1 h1 h2 h3 h4 h5
    unfold rparse
    rw [toks_show]
    dsimp only
    unfold rparseT
    rw [hkn]
    dsimp only
    rw [h1, h2, h3, ith]
    dsimp only
    rw [if_neg, h5, if_pos ⟨hm0, rfl⟩]
    rintro (h | h | h | ⟨h6, h7⟩)
    · cases h
    · omega
    · omega
    · have := h4 h6; omega
  obtain ⟨kind, th, tx, at_, v, x, why⟩ := e
  dsimp only at *
  subst hn
  have hc : n = 1 ∨ n = 2 ∨ n = 3 ∨ n = 4 ∨ n = 5 ∨ n = 6 ∨ n = 7 ∨ n = 8 ∨ n = 9 ∨ n = 10 ∨ n = 11 ∨ n = 12 ∨ n = 13 := by omega
  rcases hc with rfl | rfl | rfl | rfl | rfl | rfl | rfl | rfl | rfl | rfl | rfl | rfl | rfl
  · refine key tx v (by rw [show partsE ⟨((1 : Nat) : Int), th, tx, at_, v, x, why⟩ = [tx, v] from rfl, List.map_cons, List.map_cons, numAt_0, numAt_1, ith, itx, iv]; rfl) (by show (rnum (Lib.itoa tx)).1 = tx; rw [itx]) (by show (rnum (Lib.itoa v)).1 = v; rw [iv]) (by omega) ?_
    rw [hb]; rfl
  · refine key at_ v (by rw [show partsE ⟨((2 : Nat) : Int), th, tx, at_, v, x, why⟩ = [at_, v] from rfl, List.map_cons, List.map_cons, numAt_0, numAt_1, ith, iat, iv]; rfl) (by show (rnum (Lib.itoa at_)).1 = at_; rw [iat]) (by show (rnum (Lib.itoa v)).1 = v; rw [iv]) (by omega) ?_
    rw [hb]; rfl
  · refine key at_ x (by rw [show partsE ⟨((3 : Nat) : Int), th, tx, at_, v, x, why⟩ = [at_, x] from rfl, List.map_cons, List.map_cons, numAt_0, numAt_1, ith, iat, ix]; rfl) (by show (rnum (Lib.itoa at_)).1 = at_; rw [iat]) (by show (rnum (Lib.itoa x)).1 = x; rw [ix]) (by omega) ?_
    rw [hb]; rfl
  · refine key at_ 0 (by rw [show partsE ⟨((4 : Nat) : Int), th, tx, at_, v, x, why⟩ = [at_] from rfl, List.map_cons, List.map_nil, numAt_0, numAt_e1, ith, iat]; rfl) (by show (rnum (Lib.itoa at_)).1 = at_; rw [iat]) rfl (by omega) ?_
    rw [hb]; rfl
  · refine key v 0 (by rw [show partsE ⟨((5 : Nat) : Int), th, tx, at_, v, x, why⟩ = [v] from rfl, List.map_cons, List.map_nil, numAt_0, numAt_e1, ith, iv]; rfl) (by show (rnum (Lib.itoa v)).1 = v; rw [iv]) rfl (by omega) ?_
    rw [hb]; rfl
  · refine key at_ 0 (by rw [show partsE ⟨((6 : Nat) : Int), th, tx, at_, v, x, why⟩ = [at_] from rfl, List.map_cons, List.map_nil, numAt_0, numAt_e1, ith, iat]; rfl) (by show (rnum (Lib.itoa at_)).1 = at_; rw [iat]) rfl (by omega) ?_
    rw [hb]; rfl
  · refine key v 0 (by rw [show partsE ⟨((7 : Nat) : Int), th, tx, at_, v, x, why⟩ = [v] from rfl, List.map_cons, List.map_nil, numAt_0, numAt_e1, ith, iv]; rfl) (by show (rnum (Lib.itoa v)).1 = v; rw [iv]) rfl (by omega) ?_
    rw [hb]; rfl
  · refine key at_ x (by rw [show partsE ⟨((8 : Nat) : Int), th, tx, at_, v, x, why⟩ = [at_, x] from rfl, List.map_cons, List.map_cons, numAt_0, numAt_1, ith, iat, ix]; rfl) (by show (rnum (Lib.itoa at_)).1 = at_; rw [iat]) (by show (rnum (Lib.itoa x)).1 = x; rw [ix]) (by omega) ?_
    rw [hb]; rfl
  · refine key at_ 0 (by rw [show partsE ⟨((9 : Nat) : Int), th, tx, at_, v, x, why⟩ = [at_] from rfl, List.map_cons, List.map_nil, numAt_0, numAt_e1, ith, iat]; rfl) (by show (rnum (Lib.itoa at_)).1 = at_; rw [iat]) rfl (by omega) ?_
    rw [hb]; rfl
  · refine key why at_ (by rw [show partsE ⟨((10 : Nat) : Int), th, tx, at_, v, x, why⟩ = [why, at_] from rfl, List.map_cons, List.map_cons, numAt_0, numAt_1, ith, iw, iat]; rfl) (by show (rnum (Lib.itoa why)).1 = why; rw [iw]) (by show (rnum (Lib.itoa at_)).1 = at_; rw [iat]) (by have := hwhy rfl; omega) ?_
    rw [hb]; rfl
  · refine key at_ 0 (by rw [show partsE ⟨((11 : Nat) : Int), th, tx, at_, v, x, why⟩ = [at_] from rfl, List.map_cons, List.map_nil, numAt_0, numAt_e1, ith, iat]; rfl) (by show (rnum (Lib.itoa at_)).1 = at_; rw [iat]) rfl (by omega) ?_
    rw [hb]; rfl
  · refine key 0 0 (by rw [show partsE ⟨((12 : Nat) : Int), th, tx, at_, v, x, why⟩ = [] from rfl, List.map_nil, numAt_e, numAt_e, ith]; rfl) rfl rfl (by omega) ?_
    rw [hb]; rfl
  · refine key 0 0 (by rw [show partsE ⟨((13 : Nat) : Int), th, tx, at_, v, x, why⟩ = [] from rfl, List.map_nil, numAt_e, numAt_e, ith]; rfl) rfl rfl (by omega) ?_
    rw [hb]; rfl
theorem rparse_ok {l : List UInt8} : ((rparse l).2 = 0 ∧ mayT (rparse l).1 = true ∧ showT (rparse l).1 = l ∧ EvOk (rparse l).1) ∨ rparse l = (evZ, 4) := by
  unfold rparse
  split
  · rename_i t0 t1 rest _
    unfold rparseT
    split
    · exact Or.inr rfl
    · rename_i k hk
      split
      · exact Or.inr rfl
      · rename_i hc
        split
        · rename_i hh
          refine Or.inl ⟨rfl, hh.1, hh.2, mkE_ok (by have := kindOf_is hk; omega) (rnum_ok t0) (numAt_ok rest 0) (numAt_ok rest 1) (fun h => ?_)⟩
          simp only [not_or] at hc
          omega
        · exact Or.inr rfl
  · exact Or.inr rfl
theorem rparse_any (l : List UInt8) (hl : l.length ≤ 1000) (w : World) (hN : NamesR w) : Calls Tryd.prog 14 #[.string ⟨l.toArray⟩] w (RParseP l w) := by
  by_cases hT : (toks [] l).length < 2
  · exact rparse_few l hl w hT
  · match h : toks [] l, hT with
    | [], hT => exact absurd (by simp) hT
    | [_], hT => exact absurd (by simp) hT
    | t0 :: t1 :: rest, _ =>
      cases hk : kindOf t1 with
      | none => exact rparse_nokind l hl w hN t0 t1 rest h hk
      | some k => exact rparse_kind l hl w hN t0 t1 rest h k hk
theorem rparse_is (l : List UInt8) : rparse l = parseR l := by
  rcases rparse_ok (l := l) with ⟨h1, h2, h3, h4⟩ | h
  · have := parseR_show h4 h2
    rw [h3] at this
    rw [this]
    exact Prod.ext rfl h1
  · rw [h]
    obtain ⟨⟨g, x⟩, hp⟩ : ∃ gx, parseR l = gx := ⟨_, rfl⟩
    have hg := parseR_evok l
    rw [hp] at hg ⊢
    rcases parseR_ok hp with ⟨rfl, h1, h2⟩ | ⟨rfl, h1⟩
    · have := rparse_show hg h1
      rw [h2, h] at this
      have := congrArg Prod.snd this
      simp at this
    · rw [h1]
end Go.Proofs.YtlbpollckiidlaaDoor
