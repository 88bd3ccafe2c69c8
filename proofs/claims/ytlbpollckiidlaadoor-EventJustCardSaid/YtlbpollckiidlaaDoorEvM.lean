/-
  Walk: the law EventMore.
-/
import Derived.Test.YtlbpollckiidlaaDoorEvW6
namespace Go.Proofs.YtlbpollckiidlaaDoor
set_option linter.unusedVariables false
set_option linter.unusedSimpArgs false
open Go Go.RowKit
theorem mayE_more {e : Ev} {T V S T' V' S' : Int} (h : mayE e T V S = true) (hT : T ≤ T') (hV : V ≤ V') (hS : S ≤ S') (h6 : T' ≤ 6) (h32 : V' ≤ 32) (hs : S' ≤ V') : mayE e T' V' S' = true := by
  unfold mayE at h ⊢
  simp only [Bool.and_eq_true, sizesB, decide_eq_true_eq] at h ⊢
  obtain ⟨⟨h1, h2⟩, h3⟩ := h
  refine ⟨⟨by omega, ?_⟩, h3⟩
  have : placesE e V S ≤ placesE e V' S' := by unfold placesE; split <;> (try split) <;> omega
  omega
theorem mayE_sizes {e : Ev} {T V S : Int} (h : mayE e T V S = true) : 1 ≤ T ∧ T ≤ 6 ∧ 1 ≤ V ∧ V ≤ 32 ∧ 1 ≤ S ∧ S ≤ V := by
  unfold mayE at h
  simp only [Bool.and_eq_true, sizesB, decide_eq_true_eq] at h
  exact h.1.1
theorem urem (a n : Int) (h : 0 < n) (h' : n ≤ 1000) : 0 ≤ wrap64 ((IntKind.u64.wrap a).tmod n) ∧ wrap64 ((IntKind.u64.wrap a).tmod n) < n := by
  have h0 : 0 ≤ IntKind.u64.wrap a := by
    have : IntKind.u64.wrap a = a % 18446744073709551616 := by simp [IntKind.wrap, IntKind.signed, IntKind.bits]
    omega
  rw [Int.tmod_eq_emod_of_nonneg h0]
  have h1 := Int.emod_nonneg (IntKind.u64.wrap a) (by omega : n ≠ 0)
  have h2 := Int.emod_lt_of_pos (IntKind.u64.wrap a) h
  unfold wrap64
  omega
theorem umin (T m : Int) (r : Int) (hT : 0 ≤ T) (hm : T ≤ m) (hm2 : m ≤ 1000) (h : 0 ≤ r) (h2 : r < 1000) : T ≤ min (wrap64 (T + r)) m ∧ min (wrap64 (T + r)) m ≤ m := by
  unfold wrap64
  omega
set_option maxRecDepth 100000 in
set_option maxHeartbeats 4000000 in
theorem more_no (e : Ev) (T V S a b c : Int) (w : World) (he : EvOk e) (hS : Std w) (hm : mayE e T V S = false) :
    Calls Tryd.prog 5 #[evA e, .int .i64 T, .int .i64 V, .int .i64 S, .int .i64 a, .int .i64 b, .int .i64 c] w fun e' w' => e' = .returned (.bool true) ∧ Below w.heap.size w w' := by
  have HA := hid (fun W (hW : Below w.heap.size w W) => awake_any W (hS.below hW))
  have HM := hid (fun T V S W (hW : Below w.heap.size w W) => may_any e T V S W he (hS.kinds.below hW))
  have HN := hid hm
  obtain ⟨kind, th, tx, at_, v, x, why⟩ := e
  clear he hS hm
  dsimp only [evA] at HM ⊢
  have HB : Hid (Below w.heap.size w (w.alloc (.cells #[.int .u8 kind, .int .i64 th, .int .i64 tx, .int .i64 at_, .int .i64 v, .int .i64 x, .int .u8 why] 23))) := hid (ext_alloc (ext_refl _) _)
  have HE : Hid (Blk (w.alloc (.cells #[.int .u8 kind, .int .i64 th, .int .i64 tx, .int .i64 at_, .int .i64 v, .int .i64 x, .int .u8 why] 23)) w.heap.size #[.int .u8 kind, .int .i64 th, .int .i64 tx, .int .i64 at_, .int .i64 v, .int .i64 x, .int .u8 why] 23) := hid (Blk.new _ _ _)
  go_enter Tryd.func5, Tryd.ntmps5
  go_wp2_with fail
  refine (HA.out _ HB.out).mono ?_
  rintro e' w2 ⟨rfl, hb2⟩
  have HB2 := hid (ext_trans HB.out hb2)
  have r0 := later hb2 (HE.out.cell 0 rfl)
  have r1 := later hb2 (HE.out.cell 1 rfl)
  have r2 := later hb2 (HE.out.cell 2 rfl)
  have r3 := later hb2 (HE.out.cell 3 rfl)
  have r4 := later hb2 (HE.out.cell 4 rfl)
  have r5 := later hb2 (HE.out.cell 5 rfl)
  have r6 := later hb2 (HE.out.cell 6 rfl)
  clear hb2
  go_wp2_with fail
  refine (HM.out T V S _ HB2.out).mono ?_
  rintro e' w3 ⟨rfl, hb3⟩
  rw [HN.out]
  have HB3 := hid (ext_trans HB2.out hb3)
  clear hb3
  go_wp2_with fail
  go_ret
  exact ⟨rfl, HB3.out⟩
set_option maxRecDepth 100000 in
set_option maxHeartbeats 4000000 in
theorem more_yes (e : Ev) (T V S a b c : Int) (w : World) (he : EvOk e) (hS : Std w) (hm : mayE e T V S = true) :
    Calls Tryd.prog 5 #[evA e, .int .i64 T, .int .i64 V, .int .i64 S, .int .i64 a, .int .i64 b, .int .i64 c] w fun e' w' => e' = .returned (.bool true) ∧ Below w.heap.size w w' := by
  have HA := hid (fun W (hW : Below w.heap.size w W) => awake_any W (hS.below hW))
  have HM := hid (fun T V S W (hW : Below w.heap.size w W) => may_any e T V S W he (hS.kinds.below hW))
  have HN := hid hm
  obtain ⟨kind, th, tx, at_, v, x, why⟩ := e
  clear he hS hm
  dsimp only [evA] at HM ⊢
  have HB : Hid (Below w.heap.size w (w.alloc (.cells #[.int .u8 kind, .int .i64 th, .int .i64 tx, .int .i64 at_, .int .i64 v, .int .i64 x, .int .u8 why] 23))) := hid (ext_alloc (ext_refl _) _)
  have HE : Hid (Blk (w.alloc (.cells #[.int .u8 kind, .int .i64 th, .int .i64 tx, .int .i64 at_, .int .i64 v, .int .i64 x, .int .u8 why] 23)) w.heap.size #[.int .u8 kind, .int .i64 th, .int .i64 tx, .int .i64 at_, .int .i64 v, .int .i64 x, .int .u8 why] 23) := hid (Blk.new _ _ _)
  go_enter Tryd.func5, Tryd.ntmps5
  go_wp2_with fail
  refine (HA.out _ HB.out).mono ?_
  rintro e' w2 ⟨rfl, hb2⟩
  have HB2 := hid (ext_trans HB.out hb2)
  have r0 := later hb2 (HE.out.cell 0 rfl)
  have r1 := later hb2 (HE.out.cell 1 rfl)
  have r2 := later hb2 (HE.out.cell 2 rfl)
  have r3 := later hb2 (HE.out.cell 3 rfl)
  have r4 := later hb2 (HE.out.cell 4 rfl)
  have r5 := later hb2 (HE.out.cell 5 rfl)
  have r6 := later hb2 (HE.out.cell 6 rfl)
  clear hb2
  go_wp2_with fail
  refine (HM.out T V S _ HB2.out).mono ?_
  rintro e' w3 ⟨rfl, hb3⟩
  rw [HN.out]
  have HB3 := hid (ext_trans HB2.out hb3)
  have s0 := later hb3 r0
  have s1 := later hb3 r1
  have s2 := later hb3 r2
  have s3 := later hb3 r3
  have s4 := later hb3 r4
  have s5 := later hb3 r5
  have s6 := later hb3 r6
  clear hb3 r0 r1 r2 r3 r4 r5 r6
  have h1 := umin T 6 (wrap64 ((IntKind.u64.wrap a).tmod 6)) (by have := mayE_sizes HN.out; omega) (by have := mayE_sizes HN.out; omega) (by omega) (urem a 6 (by omega) (by omega)).1 (by have := urem a 6 (by omega) (by omega); omega)
  have h2 := umin V 32 (wrap64 ((IntKind.u64.wrap b).tmod 32)) (by have := mayE_sizes HN.out; omega) (by have := mayE_sizes HN.out; omega) (by omega) (urem b 32 (by omega) (by omega)).1 (by have := urem b 32 (by omega) (by omega); omega)
  have h3 := umin S (min (wrap64 (V + wrap64 ((IntKind.u64.wrap b).tmod 32))) 32) (wrap64 ((IntKind.u64.wrap c).tmod 32)) (by have := mayE_sizes HN.out; omega) (by have := mayE_sizes HN.out; omega) (by omega) (urem c 32 (by omega) (by omega)).1 (by have := urem c 32 (by omega) (by omega); omega)
  have sz := mayE_sizes HN.out
  have m1 := hid (mayE_more HN.out h1.1 (Int.le_refl V) (Int.le_refl S) h1.2 (by omega) (by omega))
  have m2 := hid (mayE_more HN.out (Int.le_refl T) h2.1 (Int.le_refl S) (by omega) h2.2 (by omega))
  have m3 := hid (mayE_more HN.out h1.1 h2.1 h3.1 h1.2 h2.2 h3.2)
  clear h1 h2 h3 sz
  have bT : 1 ≤ T ∧ T ≤ 6 := (mayE_sizes HN.out).imp id (·.1)
  have bV : 1 ≤ V ∧ V ≤ 32 := by have := mayE_sizes HN.out; omega
  have bS : 1 ≤ S ∧ S ≤ V := by have := mayE_sizes HN.out; omega
  clear HA bT bV bS
  go_wp2_with fail
  refine (HM.out _ _ _ _ HB3.out).mono ?_
  rintro e' w4 ⟨rfl, hb4⟩
  rw [m1.out]
  have HB4 := hid (ext_trans HB3.out hb4)
  have r0 := later hb4 s0
  have r1 := later hb4 s1
  have r2 := later hb4 s2
  have r3 := later hb4 s3
  have r4 := later hb4 s4
  have r5 := later hb4 s5
  have r6 := later hb4 s6
  clear hb4 s0 s1 s2 s3 s4 s5 s6
  go_wp2_with fail
  refine (HM.out _ _ _ _ HB4.out).mono ?_
  rintro e' w5 ⟨rfl, hb5⟩
  rw [m2.out]
  have HB5 := hid (ext_trans HB4.out hb5)
  have s0 := later hb5 r0
  have s1 := later hb5 r1
  have s2 := later hb5 r2
  have s3 := later hb5 r3
  have s4 := later hb5 r4
  have s5 := later hb5 r5
  have s6 := later hb5 r6
  clear hb5 r0 r1 r2 r3 r4 r5 r6
  go_wp2_with fail
  refine (HM.out _ _ _ _ HB5.out).mono ?_
  rintro e' w6 ⟨rfl, hb6⟩
  rw [m3.out]
  have HB6 := hid (ext_trans HB5.out hb6)
  clear hb6 s0 s1 s2 s3 s4 s5 s6
  go_wp2_with fail
  go_ret
  exact ⟨rfl, HB6.out⟩
theorem more_any (e : Ev) (T V S a b c : Int) (w : World) (he : EvOk e) (hS : Std w) :
    Calls Tryd.prog 5 #[evA e, .int .i64 T, .int .i64 V, .int .i64 S, .int .i64 a, .int .i64 b, .int .i64 c] w fun e' w' => e' = .returned (.bool true) ∧ Below w.heap.size w w' := by
  cases hm : mayE e T V S with
  | true => exact more_yes e T V S a b c w he hS hm
  | false => exact more_no e T V S a b c w he hS hm
end Go.Proofs.YtlbpollckiidlaaDoor
