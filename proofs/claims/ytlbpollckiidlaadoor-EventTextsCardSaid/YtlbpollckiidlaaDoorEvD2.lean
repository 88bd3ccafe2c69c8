/-
  Walk: the document's number of a text.
-/
import Derived.Test.YtlbpollckiidlaaDoorEvD
namespace Go.Proofs.YtlbpollckiidlaaDoor
set_option linter.unusedVariables false
set_option linter.unusedSimpArgs false
open Go Go.RowKit
def uacc : Nat → List UInt8 → Nat
  | a, [] => a
  | a, c :: r => uacc ((a * 10 + (c.toNat - 48)) % 18446744073709551616) r
def isDig (c : UInt8) : Bool := decide (48 ≤ c.toNat) && decide (c.toNat ≤ 57)
def xnum (low : Bool) (t : List UInt8) : Int := if low then wrap64 (-(IntKind.i64.wrap (uacc 0 t : Int))) else IntKind.i64.wrap (uacc 0 t : Int)
def rnumT (low : Bool) (t s : List UInt8) : Int × Bool := if t = [] ∨ 19 < t.length ∨ t.all isDig = false then (0, false) else (xnum low t, Lib.itoa (xnum low t) == s)
def rnum : List UInt8 → Int × Bool
  | [] => (0, false)
  | c :: r => if c = 45 then rnumT true r (c :: r) else rnumT false (c :: r) (c :: r)
def NumP (s : List UInt8) (w : World) (e : Ending) (w' : World) : Prop := e = .returned (.tuple #[.int .i64 (rnum s).1, .bool (rnum s).2]) ∧ Below w.heap.size w w'
set_option maxRecDepth 100000 in
set_option maxHeartbeats 4000000 in
theorem rnum_nil (w : World) : Calls Tryd.prog 31 #[.string ⟨#[]⟩] w (NumP [] w) := by
  unfold NumP
  go_enter Tryd.func31, Tryd.ntmps31
  go_wp2_with fail
  go_ret2
  exact ⟨rfl, ext_refl _⟩
theorem wrap_same (n : Int) : IntKind.i64.wrap n = wrap64 n := by
  unfold wrap64
  simp only [IntKind.wrap, IntKind.bits, IntKind.signed]
  simp
  split <;> omega
theorem uacc_snoc (c : UInt8) : ∀ (l : List UInt8) (a : Nat), uacc a (l ++ [c]) = (uacc a l * 10 + (c.toNat - 48)) % 18446744073709551616
  | [], a => rfl
  | x :: l, a => uacc_snoc c l _
theorem uacc_lt : ∀ (l : List UInt8) (a : Nat), a < 18446744073709551616 → uacc a l < 18446744073709551616
  | [], a, h => h
  | x :: l, a, _ => uacc_lt l _ (Nat.mod_lt _ (by omega))
theorem ba_tail (c : UInt8) (r : List UInt8) : (⟨(c :: r).toArray⟩ : ByteArray).extract 1 (r.length + 1) = ⟨r.toArray⟩ := by
  apply ByteArray.ext
  simp [ByteArray.data_extract]
theorem ba_get (t : List UInt8) (n : Nat) (h : n < (⟨t.toArray⟩ : ByteArray).size) : (⟨t.toArray⟩ : ByteArray)[n] = t[n]'(by simpa [ByteArray.size] using h) := rfl
set_option maxRecDepth 100000 in
set_option maxHeartbeats 4000000 in
theorem rnum_low (r : List UInt8) (w : World) (hl : r.length ≤ 1000) : Calls Tryd.prog 31 #[.string ⟨(45 :: r).toArray⟩] w (NumP (45 :: r) w) := by
  unfold NumP
  rw [show rnum (45 :: r) = rnumT true r (45 :: r) by simp [rnum]]
  have hT := ba_tail 45 r
  have h0 : (((⟨(45 :: r).toArray⟩ : ByteArray)[0]'(by simp [ByteArray.size])).toNat : Int) = 45 := rfl
  have j1 : wrap64 ((r.length : Int) + 1) = (r.length : Int) + 1 := by unfold wrap64; omega
  have j2 : wrap64 (r.length : Int) = (r.length : Int) := by unfold wrap64; omega
  by_cases hr : r = []
  · subst hr
    have HR : Hid (rnumT true [] [45] = (0, false)) := hid (if_pos (Or.inl rfl))
    go_enter Tryd.func31, Tryd.ntmps31
    go_wp2_with fail
    go_ret2
    exact ⟨by rw [HR.out]; rfl, ext_refl _⟩
  have he : r.isEmpty = false := by cases r with
    | nil => exact absurd rfl hr
    | cons a b => rfl
  by_cases h19 : 19 < r.length
  · have HR : Hid (rnumT true r (45 :: r) = (0, false)) := hid (if_pos (Or.inr (Or.inl h19)))
    have j3 : decide (19 < (r.length : Int)) = true := decide_eq_true (by omega)
    have j4 : decide (19 < r.length) = true := decide_eq_true h19
    clear hl h19
    go_enter Tryd.func31, Tryd.ntmps31
    go_wp2_with fail
    go_ret2
    exact ⟨by rw [HR.out]; rfl, ext_refl _⟩
  have j3 : decide (19 < (r.length : Int)) = false := decide_eq_false (by omega)
  have j4 : decide (19 < r.length) = false := decide_eq_false h19
  have HL := hid (And.intro hl h19)
  have hT0 := And.intro hr h19
  clear hl h19
  go_enter Tryd.func31, Tryd.ntmps31
  go_wp2_with fail
  have HHT := hid hT0
  clear hT h0 hr he j1 j2 j3 j4
  go_loopw [6, 7] (fun a k wr => ∃ n : Nat, n ≤ r.length ∧ a = .int .u64 (uacc 0 (r.take n) : Int) ∧ k = .int .i64 (n : Int) ∧ Hid ((r.take n).all isDig = true) ∧ w = wr) (fun a k _ => r.length - (intOf k).toNat)
  case atStart => exact ⟨0, by omega, rfl, rfl, hid rfl, rfl⟩
  case round =>
    obtain ⟨n, h1, rfl, rfl, HD, rfl⟩ := hrel
    have j1 : wrap64 (r.length : Int) = (r.length : Int) := by have := HL.out; skip; unfold wrap64; omega
    by_cases hlt : n < r.length
    · have k1 : decide ((n : Int) < (r.length : Int)) = true := decide_eq_true (by omega)
      have k2 : decide (n < r.length) = true := decide_eq_true hlt
      have k3 : (0 : Int) ≤ (n : Int) := by omega
      have k4 : (n : Int) < (r.length : Int) := by omega
      have k5 : wrap64 ((n : Int) + 1) = (n : Int) + 1 := by have := HL.out; skip; unfold wrap64; omega
      have hlt2 : n < (⟨(r).toArray⟩ : ByteArray).size := by simpa [ByteArray.size] using hlt
      have htk : r.take (n + 1) = r.take n ++ [r[n]] := by rw [List.take_succ_eq_append_getElem hlt]
      have hc := ba_get (r) n hlt2
      obtain ⟨c, hcc⟩ : ∃ c, r[n] = c := ⟨_, rfl⟩
      rw [hcc] at hc htk
      have hc256 : c.toNat < 256 := c.toNat_lt
      obtain ⟨m, hm⟩ : ∃ m, c.toNat = m := ⟨_, rfl⟩
      have hx : ((⟨(r).toArray⟩ : ByteArray)[n]'hlt2).toNat = m := by rw [hc]; exact hm
      have HLT := hid hlt
      have HTK := hid htk
      have HM := hid hm
      have HC : Hid (r[n]'HLT.out = c) := hid hcc
      rw [hm] at hc256
      clear hlt htk hm hcc hc
      by_cases d1 : m < 48
      · have HR : Hid (rnumT true (r) (45 :: r) = (0, false)) := hid (if_pos (Or.inr (Or.inr (by
          rw [List.all_eq_false]
          refine ⟨r[n]'HLT.out, List.getElem_mem _, ?_⟩
          rw [HC.out]
          unfold isDig
          rw [HM.out]
          simp; omega))))
        have e1 : decide ((m : Int) < 48) = true := decide_eq_true (by omega)
        have e2 : decide (m < 48) = true := decide_eq_true d1
        clear d1 h1 hc256
        go_wp2_with fail
        go_ret2
        exact ⟨by rw [HR.out]; rfl, ext_refl _⟩
      have e1 : decide ((m : Int) < 48) = false := decide_eq_false (by omega)
      have e2 : decide (m < 48) = false := decide_eq_false d1
      by_cases d2 : 57 < m
      · have HR : Hid (rnumT true (r) (45 :: r) = (0, false)) := hid (if_pos (Or.inr (Or.inr (by
          rw [List.all_eq_false]
          refine ⟨r[n]'HLT.out, List.getElem_mem _, ?_⟩
          rw [HC.out]
          unfold isDig
          rw [HM.out]
          simp; omega))))
        have e3 : decide (57 < (m : Int)) = true := decide_eq_true (by omega)
        have e4 : decide (57 < m) = true := decide_eq_true d2
        clear d1 d2 h1 hc256
        go_wp2_with fail
        go_ret2
        exact ⟨by rw [HR.out]; rfl, ext_refl _⟩
      have e3 : decide (57 < (m : Int)) = false := decide_eq_false (by omega)
      have e4 : decide (57 < m) = false := decide_eq_false d2
      have HDN : Hid ((r.take (n + 1)).all isDig = true) := hid (by
        rw [HTK.out, List.all_append, HD.out]
        simp [isDig, HM.out]; omega)
      have HAC : Hid (uacc 0 (r.take (n + 1)) = (uacc 0 (r.take n) * 10 + (m - 48)) % 18446744073709551616) := hid (by rw [HTK.out, uacc_snoc, HM.out])
      obtain ⟨d, hd⟩ : ∃ d, m - 48 = d := ⟨_, rfl⟩
      rw [hd] at HAC
      have q2 : IntKind.u8.wrap ((m : Int) - 48) = (d : Int) := by simp only [IntKind.wrap, IntKind.bits, IntKind.signed]; simp; omega
      have q3 : IntKind.u64.wrap (d : Int) = (d : Int) := by simp only [IntKind.wrap, IntKind.bits, IntKind.signed]; simp; omega
      have hd9 : d ≤ 9 := by omega
      obtain ⟨A', hA'⟩ : ∃ A', uacc 0 (r.take (n + 1)) = A' := ⟨_, rfl⟩
      rw [hA'] at HAC
      have HAp := hid hA'
      clear hA'
      have HAB := hid (uacc_lt (r.take n) 0 (by omega))
      generalize uacc 0 (r.take n) = A at HAC HAB ⊢
      have hac := HAC.out
      have hab := HAB.out
      obtain ⟨B, hB⟩ : ∃ B, A * 10 % 18446744073709551616 = B := ⟨_, rfl⟩
      have q4 : IntKind.u64.wrap ((A : Int) * 10) = (B : Int) := by simp only [IntKind.wrap, IntKind.bits, IntKind.signed]; simp; omega
      have q5 : IntKind.u64.wrap ((B : Int) + (d : Int)) = (A' : Int) := by simp only [IntKind.wrap, IntKind.bits, IntKind.signed]; simp; omega
      clear d1 d2 h1 hc256 hd hd9 hac hab hB
      go_wp2_with fail
      go_roundw
      case rel => exact ⟨n + 1, by have := HLT.out; omega, by rw [HAp.out], by simp, HDN, trivial⟩
      case measure => have := HLT.out; simp [intOf]; omega
    · obtain rfl : n = r.length := by omega
      have k1 : decide ((r.length : Int) < (r.length : Int)) = false := decide_eq_false (by omega)
      rw [List.take_length] at HD ⊢
      obtain ⟨Y, hY⟩ : ∃ Y, IntKind.i64.wrap (uacc 0 (r) : Int) = Y := ⟨_, rfl⟩
      have hY2 : wrap64 (uacc 0 (r) : Int) = Y := (wrap_same _).symm.trans hY
      have hYb : -9223372036854775808 ≤ Y ∧ Y ≤ 9223372036854775807 := by rw [← hY2]; unfold wrap64; omega
      obtain ⟨X, hX⟩ : ∃ X, wrap64 (-Y) = X := ⟨_, rfl⟩
      have hXb : -9223372036854775808 ≤ X ∧ X ≤ 9223372036854775807 := by rw [← hX]; unfold wrap64; omega
      have HX : Hid (xnum true (r) = X) := hid (by unfold xnum; rw [hY]; exact hX)
      have HR : Hid (rnumT true (r) (45 :: r) = (X, Lib.itoa X == (45 :: r))) := hid (by
        unfold rnumT
        rw [HX.out]
        refine if_neg ?_
        rintro (h | h | h)
        · exact HHT.out.1 h
        · exact HHT.out.2 h
        · rw [HD.out] at h; cases h)
      have HDG := hid (fun W => rdigits_any X (by omega) (by omega) W)
      unfold DigP strV at HDG
      generalize Lib.itoa X = ds at HDG HR
      clear hYb hXb h1 hlt
      go_wp2_with fail
      refine (HDG.out _).mono ?_
      rintro e' w1 ⟨rfl, hb⟩
      have HB := hid hb
      clear hb
      go_wp2_with fail
      go_ret2
      exact ⟨by rw [HR.out]; rfl, HB.out⟩
set_option maxRecDepth 100000 in
set_option maxHeartbeats 4000000 in
theorem rnum_high (c0 : UInt8) (q : List UInt8) (w : World) (hc0 : c0 ≠ 45) (hl : (c0 :: q).length ≤ 1000) : Calls Tryd.prog 31 #[.string ⟨(c0 :: q).toArray⟩] w (NumP (c0 :: q) w) := by
  unfold NumP
  rw [show rnum (c0 :: q) = rnumT false (c0 :: q) (c0 :: q) from if_neg hc0]
  obtain ⟨m0, hm0⟩ : ∃ m0, c0.toNat = m0 := ⟨_, rfl⟩
  have h00 : ((⟨(c0 :: q).toArray⟩ : ByteArray)[0]'(by simp [ByteArray.size])).toNat = m0 := hm0
  have h45 : ¬ m0 = 45 := fun h => hc0 (UInt8.toNat_inj.1 (hm0.trans h))
  have h0 : ((m0 : Int) == 45) = false := beq_eq_false_iff_ne.2 (by omega)
  have h0' : (m0 == 45) = false := beq_eq_false_iff_ne.2 h45
  have j1 : wrap64 ((q.length : Int) + 1) = (q.length : Int) + 1 := by have : (c0 :: q).length = q.length + 1 := rfl; unfold wrap64; omega
  have hr : ¬ (c0 :: q) = [] := by simp
  have hlen : (c0 :: q).length = q.length + 1 := rfl
  by_cases h19 : 19 < (c0 :: q).length
  · have HR : Hid (rnumT false (c0 :: q) (c0 :: q) = (0, false)) := hid (if_pos (Or.inr (Or.inl h19)))
    have j3 : decide (19 < (q.length : Int) + 1) = true := decide_eq_true (by omega)
    have j4 : decide (19 < q.length + 1) = true := decide_eq_true h19
    clear hl h19
    go_enter Tryd.func31, Tryd.ntmps31
    go_wp2_with fail
    go_ret2
    exact ⟨by rw [HR.out]; rfl, ext_refl _⟩
  have j3 : decide (19 < (q.length : Int) + 1) = false := decide_eq_false (by omega)
  have j4 : decide (19 < q.length + 1) = false := decide_eq_false h19
  have HL := hid (And.intro hl h19)
  have hT0 := And.intro hr h19
  clear hl h19
  go_enter Tryd.func31, Tryd.ntmps31
  go_wp2_with fail
  have HHT := hid hT0
  clear h45 hm0 h00 h0 h0' hc0 hr j1 j3 j4
  go_loopw [6, 7] (fun a k wr => ∃ n : Nat, n ≤ (c0 :: q).length ∧ a = .int .u64 (uacc 0 ((c0 :: q).take n) : Int) ∧ k = .int .i64 (n : Int) ∧ Hid (((c0 :: q).take n).all isDig = true) ∧ w = wr) (fun a k _ => (c0 :: q).length - (intOf k).toNat)
  case atStart => exact ⟨0, by omega, rfl, rfl, hid rfl, rfl⟩
  case round =>
    obtain ⟨n, h1, rfl, rfl, HD, rfl⟩ := hrel
    have j1 : wrap64 ((c0 :: q).length : Int) = ((c0 :: q).length : Int) := by have := HL.out; skip; unfold wrap64; omega
    by_cases hlt : n < (c0 :: q).length
    · have k1 : decide ((n : Int) < ((c0 :: q).length : Int)) = true := decide_eq_true (by omega)
      have k2 : decide (n < (c0 :: q).length) = true := decide_eq_true hlt
      have k3 : (0 : Int) ≤ (n : Int) := by omega
      have k4 : (n : Int) < ((c0 :: q).length : Int) := by omega
      have k5 : wrap64 ((n : Int) + 1) = (n : Int) + 1 := by have := HL.out; skip; unfold wrap64; omega
      have hlt2 : n < (⟨(c0 :: q).toArray⟩ : ByteArray).size := by simpa [ByteArray.size] using hlt
      have htk : (c0 :: q).take (n + 1) = (c0 :: q).take n ++ [(c0 :: q)[n]] := by rw [List.take_succ_eq_append_getElem hlt]
      have hc := ba_get (c0 :: q) n hlt2
      obtain ⟨c, hcc⟩ : ∃ c, (c0 :: q)[n] = c := ⟨_, rfl⟩
      rw [hcc] at hc htk
      have hc256 : c.toNat < 256 := c.toNat_lt
      obtain ⟨m, hm⟩ : ∃ m, c.toNat = m := ⟨_, rfl⟩
      have hx : ((⟨(c0 :: q).toArray⟩ : ByteArray)[n]'hlt2).toNat = m := by rw [hc]; exact hm
      have HLT := hid hlt
      have HTK := hid htk
      have HM := hid hm
      have HC : Hid ((c0 :: q)[n]'HLT.out = c) := hid hcc
      rw [hm] at hc256
      clear hlt htk hm hcc hc
      by_cases d1 : m < 48
      · have HR : Hid (rnumT false (c0 :: q) (c0 :: q) = (0, false)) := hid (if_pos (Or.inr (Or.inr (by
          rw [List.all_eq_false]
          refine ⟨(c0 :: q)[n]'HLT.out, List.getElem_mem _, ?_⟩
          rw [HC.out]
          unfold isDig
          rw [HM.out]
          simp; omega))))
        have e1 : decide ((m : Int) < 48) = true := decide_eq_true (by omega)
        have e2 : decide (m < 48) = true := decide_eq_true d1
        clear d1 h1 hc256
        go_wp2_with fail
        go_ret2
        exact ⟨by rw [HR.out]; rfl, ext_refl _⟩
      have e1 : decide ((m : Int) < 48) = false := decide_eq_false (by omega)
      have e2 : decide (m < 48) = false := decide_eq_false d1
      by_cases d2 : 57 < m
      · have HR : Hid (rnumT false (c0 :: q) (c0 :: q) = (0, false)) := hid (if_pos (Or.inr (Or.inr (by
          rw [List.all_eq_false]
          refine ⟨(c0 :: q)[n]'HLT.out, List.getElem_mem _, ?_⟩
          rw [HC.out]
          unfold isDig
          rw [HM.out]
          simp; omega))))
        have e3 : decide (57 < (m : Int)) = true := decide_eq_true (by omega)
        have e4 : decide (57 < m) = true := decide_eq_true d2
        clear d1 d2 h1 hc256
        go_wp2_with fail
        go_ret2
        exact ⟨by rw [HR.out]; rfl, ext_refl _⟩
      have e3 : decide (57 < (m : Int)) = false := decide_eq_false (by omega)
      have e4 : decide (57 < m) = false := decide_eq_false d2
      have HDN : Hid (((c0 :: q).take (n + 1)).all isDig = true) := hid (by
        rw [HTK.out, List.all_append, HD.out]
        simp [isDig, HM.out]; omega)
      have HAC : Hid (uacc 0 ((c0 :: q).take (n + 1)) = (uacc 0 ((c0 :: q).take n) * 10 + (m - 48)) % 18446744073709551616) := hid (by rw [HTK.out, uacc_snoc, HM.out])
      obtain ⟨d, hd⟩ : ∃ d, m - 48 = d := ⟨_, rfl⟩
      rw [hd] at HAC
      have q2 : IntKind.u8.wrap ((m : Int) - 48) = (d : Int) := by simp only [IntKind.wrap, IntKind.bits, IntKind.signed]; simp; omega
      have q3 : IntKind.u64.wrap (d : Int) = (d : Int) := by simp only [IntKind.wrap, IntKind.bits, IntKind.signed]; simp; omega
      have hd9 : d ≤ 9 := by omega
      obtain ⟨A', hA'⟩ : ∃ A', uacc 0 ((c0 :: q).take (n + 1)) = A' := ⟨_, rfl⟩
      rw [hA'] at HAC
      have HAp := hid hA'
      clear hA'
      have HAB := hid (uacc_lt ((c0 :: q).take n) 0 (by omega))
      generalize uacc 0 ((c0 :: q).take n) = A at HAC HAB ⊢
      have hac := HAC.out
      have hab := HAB.out
      obtain ⟨B, hB⟩ : ∃ B, A * 10 % 18446744073709551616 = B := ⟨_, rfl⟩
      have q4 : IntKind.u64.wrap ((A : Int) * 10) = (B : Int) := by simp only [IntKind.wrap, IntKind.bits, IntKind.signed]; simp; omega
      have q5 : IntKind.u64.wrap ((B : Int) + (d : Int)) = (A' : Int) := by simp only [IntKind.wrap, IntKind.bits, IntKind.signed]; simp; omega
      clear d1 d2 h1 hc256 hd hd9 hac hab hB
      go_wp2_with fail
      go_roundw
      case rel => exact ⟨n + 1, by have := HLT.out; omega, by rw [HAp.out], by simp, HDN, trivial⟩
      case measure => have := HLT.out; simp [intOf]; omega
    · obtain rfl : n = (c0 :: q).length := by omega
      have k1 : decide (((c0 :: q).length : Int) < ((c0 :: q).length : Int)) = false := decide_eq_false (by omega)
      rw [List.take_length] at HD ⊢
      obtain ⟨Y, hY⟩ : ∃ Y, IntKind.i64.wrap (uacc 0 (c0 :: q) : Int) = Y := ⟨_, rfl⟩
      have hY2 : wrap64 (uacc 0 (c0 :: q) : Int) = Y := (wrap_same _).symm.trans hY
      have hYb : -9223372036854775808 ≤ Y ∧ Y ≤ 9223372036854775807 := by rw [← hY2]; unfold wrap64; omega
      have hXb := hYb
      have HX : Hid (xnum false (c0 :: q) = Y) := hid (by unfold xnum; rw [hY]; rfl)
      have HR : Hid (rnumT false (c0 :: q) (c0 :: q) = (Y, Lib.itoa Y == (c0 :: q))) := hid (by
        unfold rnumT
        rw [HX.out]
        refine if_neg ?_
        rintro (h | h | h)
        · exact HHT.out.1 h
        · exact HHT.out.2 h
        · rw [HD.out] at h; cases h)
      have HDG := hid (fun W => rdigits_any Y (by omega) (by omega) W)
      unfold DigP strV at HDG
      generalize Lib.itoa Y = ds at HDG HR
      clear hYb hXb h1 hlt
      go_wp2_with fail
      refine (HDG.out _).mono ?_
      rintro e' w1 ⟨rfl, hb⟩
      have HB := hid hb
      clear hb
      go_wp2_with fail
      go_ret2
      exact ⟨by rw [HR.out]; rfl, HB.out⟩
theorem rnum_any (s : List UInt8) (w : World) (hl : s.length ≤ 1000) : Calls Tryd.prog 31 #[.string ⟨s.toArray⟩] w (NumP s w) := by
  cases s with
  | nil => exact rnum_nil w
  | cons c r =>
    by_cases hc : c = 45
    · subst hc; exact rnum_low r w (by simp at hl; omega)
    · exact rnum_high c r w hc hl
end Go.Proofs.YtlbpollckiidlaaDoor
