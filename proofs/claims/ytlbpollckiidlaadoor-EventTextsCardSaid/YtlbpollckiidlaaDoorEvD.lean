/-
  Walk: the document's digits and number.
-/
import Derived.Test.YtlbpollckiidlaaDoorEvR3
import Derived.Test.YtlbpollckiidlaaDoorReg7
namespace Go.Proofs.YtlbpollckiidlaaDoor
set_option linter.unusedVariables false
set_option linter.unusedSimpArgs false
open Go Go.RowKit
theorem ba_append (l m : List UInt8) : (⟨l.toArray⟩ : ByteArray) ++ ⟨m.toArray⟩ = ⟨(l ++ m).toArray⟩ := by
  apply ByteArray.ext
  simp
theorem run_dig (W : World) (b r : Nat) (hr : r < 10) (hB : Blk W b #[.int .u8 (48 + (r : Int))] 5) : (convert 72 9 (.slice (some ⟨b, 0, none⟩) 1 1)).run Tryd.prog W = .ok (.string ⟨#[UInt8.ofNat (48 + r)]⟩) W := by
  have hm : (48 + r) % 256 = 48 + r := Nat.mod_eq_of_lt (by omega)
  exact run_convert_bytes_back (P := Tryd.prog) W 72 9 5 ⟨b, 0, none⟩ 1 [UInt8.ofNat (48 + r)] Tryd.underlying72 Tryd.underlying5 Tryd.underlying9 (fun j hj => by
    match j, hj with
    | 0, _ =>
      have e1 : (⟨b, 0, none⟩ : Addr).add 0 = ⟨b, 0, none⟩ := by simp [Addr.add]
      rw [e1, hB.cell 0 rfl]
      simp [UInt8.toNat_ofNat', hm])
def DigP (n : Int) (w : World) (e : Ending) (w' : World) : Prop := e = .returned (strV (Lib.itoa n)) ∧ Below w.heap.size w w'
theorem i64_min : Lib.itoa (-9223372036854775808) = [45, 57, 50, 50, 51, 51, 55, 50, 48, 51, 54, 56, 53, 52, 55, 55, 53, 56, 48, 56] := by kernel_rfl
set_option maxRecDepth 100000 in
set_option maxHeartbeats 4000000 in
theorem rdigits_min (w : World) : Calls Tryd.prog 26 #[.int .i64 (-9223372036854775808)] w (DigP (-9223372036854775808) w) := by
  unfold DigP
  rw [i64_min]
  unfold strV
  go_enter Tryd.func26, Tryd.ntmps26
  go_wp2_with fail
  go_ret
  exact ⟨rfl, ext_refl _⟩
set_option maxRecDepth 100000 in
set_option maxHeartbeats 4000000 in
theorem rdigits_neg (n : Int) (w : World) (h0 : -9223372036854775808 < n) (h1 : n < 0) (ih : ∀ W, Calls Tryd.prog 26 #[.int .i64 (-n)] W (DigP (-n) W)) : Calls Tryd.prog 26 #[.int .i64 n] w (DigP n w) := by
  have HI := hid ih
  have HR : Hid (Lib.itoa n = 45 :: Lib.itoa (-n)) := hid (by
    obtain ⟨u, hu⟩ := Int.eq_ofNat_of_zero_le (show 0 ≤ -n by omega)
    rw [hu, Lib.itoa_nonneg, show n = -(u : Int) by omega, Lib.itoa_neg u (by omega)])
  have j0 : (n == -9223372036854775808) = false := beq_eq_false_iff_ne.2 (by omega)
  have j1 : decide (n < 0) = true := decide_eq_true h1
  have j2 : wrap64 (-n) = -n := by unfold wrap64; omega
  unfold DigP strV at HI ⊢
  have hlen : (Lib.itoa (-n)).length ≤ 21 := Lib.itoa_length_le _ (by omega) (by omega)
  generalize Lib.itoa (-n) = ds at HI HR hlen
  have l1 : ¬ 9223372036854775807 < ds.length + 1 := by omega
  have l2 : ¬ 9223372036854775807 < 1 + ds.length := by omega
  clear hlen
  clear ih h0 h1
  go_enter Tryd.func26, Tryd.ntmps26
  go_wp2_with fail
  refine (HI.out _).mono ?_
  rintro e' w1 ⟨rfl, hb⟩
  have HB := hid hb
  clear hb
  go_wp2_with fail
  go_ret
  exact ⟨by rw [HR.out]; rfl, HB.out⟩
set_option maxRecDepth 100000 in
set_option maxHeartbeats 4000000 in
theorem rdigits_one (n : Int) (w : World) (h0 : 0 ≤ n) (h1 : n < 10) : Calls Tryd.prog 26 #[.int .i64 n] w (DigP n w) := by
  obtain ⟨u, rfl⟩ := Int.eq_ofNat_of_zero_le h0
  have hu : u < 10 := by omega
  have HR : Hid (Lib.itoa (u : Int) = [UInt8.ofNat (48 + u)]) := hid (by rw [Lib.itoa_nonneg, Lib.decDigits_one hu])
  have j0 : ((u : Int) == -9223372036854775808) = false := beq_eq_false_iff_ne.2 (by omega)
  have j1 : decide ((u : Int) < 0) = false := decide_eq_false (by omega)
  have j2 : decide ((u : Int) < 10) = true := decide_eq_true (by omega)
  have j3 : wrap64 (48 + (u : Int)) = 48 + (u : Int) := by unfold wrap64; omega
  have j4 : IntKind.u8.wrap (48 + (u : Int)) = 48 + (u : Int) := by simp only [IntKind.wrap, IntKind.bits, IntKind.signed]; simp; omega
  have k1 := run_dig (w.alloc (.cells #[.int .u8 (48 + (u : Int))] 5)) w.heap.size u hu (Blk.new _ _ _)
  generalize UInt8.ofNat (48 + u) = cb at HR k1
  have HB : Hid (Below w.heap.size w (w.alloc (.cells #[.int .u8 (48 + (u : Int))] 5))) := hid (ext_alloc (ext_refl _) _)
  unfold DigP strV
  clear h0 h1
  go_enter Tryd.func26, Tryd.ntmps26
  go_wp2_with fail
  go_ret
  exact ⟨by rw [HR.out]; rfl, HB.out⟩
/-- What the last region's operations yield. -/
def DigV (cb : UInt8) (u d r : Nat) (i : Nat) (v : Value) (w : World) : Prop :=
  match i with
  | 0 => v = .int .i64 (u : Int)
  | 1 => v = .int .i64 (d : Int)
  | 2 => v = .string ⟨(Lib.itoa (d : Int)).toArray⟩
  | 3 => v = .int .i64 (u : Int)
  | 4 => v = .int .i64 (r : Int)
  | 5 => v = .int .i64 (48 + (r : Int))
  | 6 => v = .int .u8 (48 + (r : Int))
  | 7 => ∃ b, v = .slice (some ⟨b, 0, none⟩) 1 1 ∧ Blk w b #[.int .u8 (48 + (r : Int))] 5
  | 8 => v = .string ⟨#[cb]⟩
  | 9 => v = .string ⟨(Lib.itoa (u : Int)).toArray⟩
  | 10 => v = .string ⟨(Lib.itoa (u : Int)).toArray⟩
  | _ => True
set_option maxRecDepth 100000 in
set_option maxHeartbeats 4000000 in
theorem rdigits_more (u d r : Nat) (w : World) (h0 : 10 ≤ u) (h1 : u ≤ 9223372036854775807) (hd : u / 10 = d) (hr : u % 10 = r) (ih : ∀ W, Calls Tryd.prog 26 #[.int .i64 (d : Int)] W (DigP (d : Int) W)) : Calls Tryd.prog 26 #[.int .i64 (u : Int)] w (DigP (u : Int) w) := by
  have HI := hid ih
  have HR : Hid (Lib.itoa (u : Int) = Lib.itoa (d : Int) ++ [UInt8.ofNat (48 + r)]) := hid (by
    rw [Lib.itoa_nonneg, Lib.itoa_nonneg, Lib.decDigits, dif_neg (by omega), hd, hr])
  have hr10 : r < 10 := by omega
  have HRD := hid (fun W b hB => run_dig W b r hr10 hB)
  have hlen : (Lib.itoa (d : Int)).length ≤ 21 := Lib.itoa_length_le _ (by omega) (by omega)
  generalize UInt8.ofNat (48 + r) = cb at HR HRD
  have HDS := hid hlen
  have j0 : ((u : Int) == -9223372036854775808) = false := beq_eq_false_iff_ne.2 (by omega)
  have j1 : decide ((u : Int) < 0) = false := decide_eq_false (by omega)
  have j2 : decide ((u : Int) < 10) = false := decide_eq_false (by omega)
  have q1 : (u : Int).tdiv 10 = (d : Int) := by rw [Int.tdiv_eq_ediv_of_nonneg (by omega)]; omega
  have q2 : (u : Int).tmod 10 = (r : Int) := by rw [Int.tmod_eq_emod_of_nonneg (by omega)]; omega
  have q3 : wrap64 (d : Int) = (d : Int) := by unfold wrap64; omega
  have q4 : wrap64 (r : Int) = (r : Int) := by unfold wrap64; omega
  have q5 : wrap64 (48 + (r : Int)) = 48 + (r : Int) := by unfold wrap64; omega
  have q7 : IntKind.i64.wrap (d : Int) = (d : Int) := IntWalk.i64_in _ (by omega)
  have q8 : IntKind.i64.wrap (r : Int) = (r : Int) := IntWalk.i64_in _ (by omega)
  have q9 : IntKind.i64.wrap (48 + (r : Int)) = 48 + (r : Int) := IntWalk.i64_in _ (by omega)
  have q6 : IntKind.u8.wrap (48 + (r : Int)) = 48 + (r : Int) := by simp only [IntKind.wrap, IntKind.bits, IntKind.signed]; simp; omega
  unfold DigP strV at HI ⊢
  clear ih h0 h1 hd hr hr10 hlen
  go_enter Tryd.func26, Tryd.ntmps26
  go_wp2_with fail
  clear j0 j1 j2
  apply wp_region_knownV (DigV cb u d r) (fun w' => Below w.heap.size w w') (fun w1 w2 => Below w1.heap.size w1 w2)
  focus (intro vals; simp [putAll, dstOf, Act.put, List.getD]; rfl)
  case hm => kernel_rfl
  case hd => kernel_rfl
  case hb => kernel_rfl
  case hng => kernel_rfl
  case hsz => kernel_rfl
  case hstab =>
    intro i v w1 w2 h hb
    match i, h with
    | 7, h =>
      obtain ⟨b, h1, h2⟩ := h
      exact ⟨b, h1, h2.below hb⟩
    | 0, h => exact h
    | 1, h => exact h
    | 2, h => exact h
    | 3, h => exact h
    | 4, h => exact h
    | 5, h => exact h
    | 6, h => exact h
    | 8, h => exact h
    | 9, h => exact h
    | 10, h => exact h
    | n + 11, h => trivial
  case h0 => exact ext_drew (ext_refl _)
  case hstep =>
    refine ⟨?_, ?_, ?_, ?_, ?_, ?_, ?_, ?_, ?_, ?_, ?_, trivial⟩
    all_goals (
      refine ⟨(fun g b h => by cases h), fun w' hG hg ρ h1 h2 h3 h4 h5 => ?_⟩
      have hG := hid hG)
    · have f0 := h5 0 (by kernel_rfl)
      clear h4 h5
      unfold OpY
      go_simp
      exact ⟨rfl, hG.out, ext_refl _⟩
    · have f1 : ρ (.tmp 18) = .int .i64 (u : Int) := h4 0 18 (by kernel_rfl) (by kernel_rfl)
      clear h4 h5
      unfold OpY
      go_simp
      exact ⟨rfl, hG.out, ext_refl _⟩
    · have f1 : ρ (.tmp 19) = .int .i64 (d : Int) := h4 1 19 (by kernel_rfl) (by kernel_rfl)
      clear h4 h5
      unfold OpY
      go_simp
      unfold OpR
      refine (HI.out _).mono ?_
      rintro e' w1 ⟨rfl, hb⟩
      exact ⟨_, rfl, rfl, ext_trans hG.out hb, hb⟩
    · have f0 := h5 0 (by kernel_rfl)
      clear h4 h5
      unfold OpY
      go_simp
      exact ⟨rfl, hG.out, ext_refl _⟩
    · have f1 : ρ (.tmp 21) = .int .i64 (u : Int) := h4 3 21 (by kernel_rfl) (by kernel_rfl)
      clear h4 h5
      unfold OpY
      go_simp
      exact ⟨rfl, hG.out, ext_refl _⟩
    · have f1 : ρ (.tmp 22) = .int .i64 (r : Int) := h4 4 22 (by kernel_rfl) (by kernel_rfl)
      clear h4 h5
      unfold OpY
      go_simp
      exact ⟨rfl, hG.out, ext_refl _⟩
    · have f1 : ρ (.tmp 23) = .int .i64 (48 + (r : Int)) := h4 5 23 (by kernel_rfl) (by kernel_rfl)
      clear h4 h5
      unfold OpY
      go_simp
      exact ⟨rfl, hG.out, ext_refl _⟩
    · have f1 : ρ (.tmp 24) = .int .u8 (48 + (r : Int)) := h4 6 24 (by kernel_rfl) (by kernel_rfl)
      clear h4 h5
      unfold OpY
      go_simp
      exact ⟨⟨_, rfl, Blk.new _ _ _⟩, ext_alloc hG.out _, ext_alloc (ext_refl _) _⟩
    · obtain ⟨b, f1, hB⟩ : DigV cb u d r 7 (ρ (.tmp 25)) w' := h4 7 25 (by kernel_rfl) (by kernel_rfl)
      have k1 := HRD.out w' b hB
      clear h4 h5
      unfold OpY
      go_simp
      exact ⟨rfl, hG.out, ext_refl _⟩
    · have f1 : ρ (.tmp 20) = .string ⟨(Lib.itoa (d : Int)).toArray⟩ := h4 2 20 (by kernel_rfl) (by kernel_rfl)
      have f2 : ρ (.tmp 26) = .string ⟨#[cb]⟩ := h4 8 26 (by kernel_rfl) (by kernel_rfl)
      have l1 : ¬ 9223372036854775807 < (Lib.itoa (d : Int)).length + 1 := by have := HDS.out; omega
      clear h4 h5
      unfold OpY
      go_simp
      refine ⟨?_, hG.out, ext_refl _⟩
      show _ = Value.string ⟨(Lib.itoa (u : Int)).toArray⟩
      rw [HR.out]
      exact congrArg Value.string (ba_append (Lib.itoa (d : Int)) [cb])
    · have f1 : ρ (.tmp 27) = .string ⟨(Lib.itoa (u : Int)).toArray⟩ := h4 9 27 (by kernel_rfl) (by kernel_rfl)
      clear h4 h5
      unfold OpY
      go_simp
      exact ⟨rfl, hG.out, ext_refl _⟩
  case hdone =>
    intro vals w' hG hV
    have HG := hid hG
    have e10 : vals 10 = .string ⟨(Lib.itoa (u : Int)).toArray⟩ := hV 10 (by decide)
    rw [e10]
    clear hV hG e10
    go_wp2_with fail
    go_ret
    exact ⟨rfl, HG.out⟩
theorem rdigits_nat : ∀ (k u : Nat), u < k → u ≤ 9223372036854775807 → ∀ w : World, Calls Tryd.prog 26 #[.int .i64 (u : Int)] w (DigP (u : Int) w)
  | 0, u, h, _, w => by omega
  | k + 1, u, h, hu, w => by
    by_cases h10 : u < 10
    · exact rdigits_one _ w (by omega) (by omega)
    · exact rdigits_more u _ _ w (by omega) hu rfl rfl (fun W => rdigits_nat k (u / 10) (by omega) (by omega) W)
theorem rdigits_any (n : Int) (h0 : -9223372036854775808 ≤ n) (h1 : n ≤ 9223372036854775807) (w : World) : Calls Tryd.prog 26 #[.int .i64 n] w (DigP n w) := by
  by_cases hm : n = -9223372036854775808
  · subst hm; exact rdigits_min w
  by_cases hn : n < 0
  · refine rdigits_neg n w (by omega) hn (fun W => ?_)
    obtain ⟨u, hu⟩ := Int.eq_ofNat_of_zero_le (show 0 ≤ -n by omega)
    rw [hu]
    exact rdigits_nat (u + 1) u (by omega) (by omega) W
  · obtain ⟨u, rfl⟩ := Int.eq_ofNat_of_zero_le (show 0 ≤ n by omega)
    exact rdigits_nat (u + 1) u (by omega) (by omega) w
end Go.Proofs.YtlbpollckiidlaaDoor
