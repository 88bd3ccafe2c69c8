/-
  The law ShapePrefix: the plain law, and its walk.
-/
import Derived.Test.YtmgchpijkdammaaDoorShX
namespace Go.Proofs.YtmgchpijkdammaaDoor
set_option linter.unusedVariables false
set_option linter.unusedSimpArgs false
open Go Go.RowKit
theorem checkT_cases (T V S : Int) (l : List Ev) (hl : l.length ≤ 2000) : checkT T V S l = (0, 1) ∧ sizeOk T V S = false ∨ (sizeOk T V S = true ∧ ∃ c : Nat, c ≤ l.length ∧ comesS (newS T V S) l = c ∧ (c = l.length ∧ checkT T V S l = ((l.length : Int), 0) ∨ c < l.length ∧ checkT T V S l = ((c : Int), 4))) := by
  cases hz : sizeOk T V S with
  | false => exact Or.inl ⟨checkT_size hz, rfl⟩
  | true =>
    refine Or.inr ⟨rfl, _, comesS_le l _, rfl, ?_⟩
    have h := comesS_le l (newS T V S)
    unfold checkT
    rw [if_neg (by rw [hz]; decide), if_neg (by omega)]
    by_cases hc : comesS (newS T V S) l < l.length
    · rw [if_pos hc]; exact Or.inr ⟨hc, rfl⟩
    · rw [if_neg hc]; exact Or.inl ⟨by omega, rfl⟩
theorem checkT_take {T V S : Int} {l : List Ev} {c k : Nat} (hz : sizeOk T V S = true) (hl : l.length ≤ 2000) (hc : comesS (newS T V S) l = c) (hcl : c ≤ l.length) (hk : k ≤ l.length) :
    checkT T V S (l.take k) = if k ≤ c then ((k : Int), 0) else ((c : Int), 4) := by
  have h1 : (l.take k).length = k := by rw [List.length_take]; omega
  unfold checkT
  rw [if_neg (by rw [hz]; decide), if_neg (by omega), comes_take, hc, h1]
  by_cases h : k ≤ c
  · rw [if_neg (by omega), if_pos h]
  · rw [if_pos (by omega), if_neg h]
    congr 2
    omega
theorem EvsAt.take {w : World} {a : Option Addr} {l : List Ev} (h : EvsAt w a l) (k : Nat) : EvsAt w a (l.take k) := by
  refine ⟨fun e he => h.1 e (List.mem_of_mem_take he), fun hn => ?_⟩
  obtain ⟨b, o, h1, h2⟩ := h.2 (by rintro rfl; simp at hn)
  refine ⟨b, o, h1, fun j hj i v hv => h2 j (by rw [List.length_take] at hj; omega) i v ?_⟩
  rw [List.getElem_take] at hv
  exact hv
set_option maxRecDepth 100000 in
set_option maxHeartbeats 4000000 in
theorem prefix_great (T V S : Int) (a : Option Addr) (len cap : Nat) (n : Int) (w : World) (hl : 2000 < len) (hK : KindsAt w) (hT : TabOk w) :
    Calls Tryd.prog 4 #[trA T V S a len cap, .int .i64 n] w fun e w' => e = .returned (.bool true) ∧ Below w.heap.size w w' := by
  have HW := hid (fun W (hW : Below w.heap.size w W) => works_any W (hK.below hW) (hT.below hW))
  have j : decide ((2000 : Int) < (len : Int)) = true := by rw [decide_eq_true_iff]; omega
  clear hl hK hT
  dsimp only [trA]
  have HB : Hid (Below w.heap.size w (w.alloc (.cells #[.int .i64 T, .int .i64 V, .int .i64 S, .slice a len cap] 24))) := hid (ext_alloc (ext_refl _) _)
  have d := (Blk.new w #[.int .i64 T, .int .i64 V, .int .i64 S, .slice a len cap] 24).cell 3 rfl
  go_enter Tryd.func4, Tryd.ntmps4
  go_wp2_with fail
  refine (HW.out _ HB.out).mono ?_
  rintro e' w1 ⟨rfl, hb1⟩
  have d3 := later hb1 d
  have HB1 := hid (ext_trans HB.out hb1)
  clear hb1 d
  go_wp2_with fail
  refine (HW.out _ HB1.out).mono ?_
  rintro e' w2 ⟨rfl, hb2⟩
  have HB2 := hid (ext_trans HB1.out hb2)
  clear hb2
  go_wp2_with fail
  go_ret
  exact ⟨rfl, HB2.out⟩
set_option maxRecDepth 100000 in
set_option maxHeartbeats 4000000 in
theorem prefix_arg (T V S : Int) (a : Option Addr) (l : List Ev) (cap : Nat) (n : Int) (w : World) (hl : l.length ≤ 2000) (hz : sizeOk T V S = false) (hE : EvsAt w a l) (hK : KindsAt w) (hT : TabOk w) :
    Calls Tryd.prog 4 #[trA T V S a l.length cap, .int .i64 n] w fun e w' => e = .returned (.bool true) ∧ Below w.heap.size w w' := by
  have HW := hid (fun W (hW : Below w.heap.size w W) => works_any W (hK.below hW) (hT.below hW))
  have HC := hid (fun W (hW : Below w.heap.size w W) => check_all T V S a l cap W (hE.below hW) (hK.below hW) (hT.below hW))
  rw [checkT_size hz] at HC
  have j : decide ((2000 : Int) < (l.length : Int)) = false := by rw [decide_eq_false_iff_not]; omega
  clear hl hK hT hE hz
  dsimp only [trA] at HC ⊢
  have HB : Hid (Below w.heap.size w (w.alloc (.cells #[.int .i64 T, .int .i64 V, .int .i64 S, .slice a l.length cap] 24))) := hid (ext_alloc (ext_refl _) _)
  have d := Blk.new w #[.int .i64 T, .int .i64 V, .int .i64 S, .slice a l.length cap] 24
  go_enter Tryd.func4, Tryd.ntmps4
  go_wp2_with fail
  refine (HW.out _ HB.out).mono ?_
  rintro e' w1 ⟨rfl, hb1⟩
  have d0 := later hb1 (d.cell 0 rfl)
  have d1 := later hb1 (d.cell 1 rfl)
  have d2 := later hb1 (d.cell 2 rfl)
  have d3 := later hb1 (d.cell 3 rfl)
  have HB1 := hid (ext_trans HB.out hb1)
  clear hb1 d
  go_wp2_with fail
  refine (HC.out _ HB1.out).mono ?_
  rintro e' w2 ⟨rfl, hb2⟩
  have HB2 := hid (ext_trans HB1.out hb2)
  clear hb2
  go_wp2_with fail
  go_ret
  exact ⟨rfl, HB2.out⟩
set_option maxRecDepth 100000 in
set_option maxHeartbeats 4000000 in
theorem prefix_ok (T V S : Int) (a : Option Addr) (l : List Ev) (cap : Nat) (n : Int) (w : World) (hl : l.length ≤ 2000) (hcap : l.length ≤ cap) (c : Nat) (p q : Int) (hpq : p = (l.length : Int) ∧ q = 0 ∧ c = l.length ∨ p = (c : Int) ∧ q = 4 ∧ c < l.length)
    (hc1 : checkT T V S l = (p, q)) (hc2 : ∀ k : Nat, k ≤ l.length → checkT T V S (l.take k) = if k ≤ c then ((k : Int), 0) else ((c : Int), 4)) (hE : EvsAt w a l) (hK : KindsAt w) (hT : TabOk w) :
    Calls Tryd.prog 4 #[trA T V S a l.length cap, .int .i64 n] w fun e w' => e = .returned (.bool true) ∧ Below w.heap.size w w' := by
  have HW := hid (fun W (hW : Below w.heap.size w W) => works_any W (hK.below hW) (hT.below hW))
  have HC := hid (fun W (hW : Below w.heap.size w W) => check_all T V S a l cap W (hE.below hW) (hK.below hW) (hT.below hW))
  rw [hc1] at HC
  obtain ⟨k, hk⟩ : ∃ k : Nat, n % 18446744073709551616 % ((l.length : Int) + 1) = (k : Int) := Int.eq_ofNat_of_zero_le (Int.emod_nonneg _ (by omega))
  have hkl : k ≤ l.length := by
    have := Int.emod_lt_of_pos (n % 18446744073709551616) (show (0 : Int) < (l.length : Int) + 1 by omega)
    omega
  have HC2 := hid (fun W (hW : Below w.heap.size w W) => check_all T V S a (l.take k) cap W ((hE.take k).below hW) (hK.below hW) (hT.below hW))
  rw [hc2 k hkl, show (l.take k).length = k by rw [List.length_take]; omega] at HC2
  have j : decide ((2000 : Int) < (l.length : Int)) = false := by rw [decide_eq_false_iff_not]; omega
  have hk2 : wrap64 ((IntKind.u64.wrap n).tmod ((l.length : Int) + 1)) = (k : Int) := by
    rw [IntKind.wrap_u64, Int.tmod_eq_emod_of_nonneg (by omega), hk]
    unfold wrap64; omega
  have jk : (0 : Int) ≤ (k : Int) := by omega
  have jk2 : (k : Int) ≤ (cap : Int) := by omega
  have HK := hid hk
  have HKL := hid hkl
  have HCAP := hid hcap
  clear hK hT hE hc1 hc2 hkl hk
  dsimp only [trA] at HC HC2 ⊢
  have HB : Hid (Below w.heap.size w (w.alloc (.cells #[.int .i64 T, .int .i64 V, .int .i64 S, .slice a l.length cap] 24))) := hid (ext_alloc (ext_refl _) _)
  have d := Blk.new w #[.int .i64 T, .int .i64 V, .int .i64 S, .slice a l.length cap] 24
  rcases hpq with ⟨rfl, rfl, rfl⟩ | ⟨rfl, rfl, hlt⟩
  · rw [if_pos HKL.out] at HC2
    have i1 : decide ((k : Int) ≤ (l.length : Int)) = true := by rw [decide_eq_true_iff]; have := HKL.out; omega
    have i2 : decide (k ≤ l.length) = true := by rw [decide_eq_true_iff]; exact HKL.out
    go_enter Tryd.func4, Tryd.ntmps4
    go_wp2_with fail
    refine (HW.out _ HB.out).mono ?_
    rintro e' w1 ⟨rfl, hb1⟩
    have d0 := later hb1 (d.cell 0 rfl)
    have d1 := later hb1 (d.cell 1 rfl)
    have d2 := later hb1 (d.cell 2 rfl)
    have d3 := later hb1 (d.cell 3 rfl)
    have HB1 := hid (ext_trans HB.out hb1)
    clear hb1 d
    go_wp2_with fail
    refine (HC.out _ HB1.out).mono ?_
    rintro e' w2 ⟨rfl, hb2⟩
    have f0 := later hb2 d0
    have f1 := later hb2 d1
    have f2 := later hb2 d2
    have f3 := later hb2 d3
    have HB2 := hid (ext_trans HB1.out hb2)
    have HB3 : Hid (Below w.heap.size w (w2.alloc (.cells #[.int .i64 T, .int .i64 V, .int .i64 S, .slice a k cap] 24))) := hid (ext_alloc HB2.out _)
    have g3 := cell_alloc (x := .cells #[.int .i64 T, .int .i64 V, .int .i64 S, .slice a l.length cap] 24) f3
    clear hb2 d0 d1 d2 d3
    go_wp2_with fail
    refine (HC2.out _ HB3.out).mono ?_
    rintro e' w3 ⟨rfl, hb3⟩
    have HB4 := hid (ext_trans HB3.out hb3)
    clear hb3
    go_wp2_with fail
    go_ret
    exact ⟨rfl, HB4.out⟩
  · have c1 : decide ((c : Int) < 0) = false := by rw [decide_eq_false_iff_not]; omega
    have c2 : decide ((l.length : Int) ≤ (c : Int)) = false := by rw [decide_eq_false_iff_not]; omega
    have c3 : decide (l.length ≤ c) = false := by rw [decide_eq_false_iff_not]; omega
    clear hlt
    by_cases hkc : k ≤ c
    · rw [if_pos hkc] at HC2
      have i1 : decide ((k : Int) ≤ (c : Int)) = true := by rw [decide_eq_true_iff]; omega
      have i2 : decide (k ≤ c) = true := by rw [decide_eq_true_iff]; exact hkc
      clear hkc
      go_enter Tryd.func4, Tryd.ntmps4
      go_wp2_with fail
      refine (HW.out _ HB.out).mono ?_
      rintro e' w1 ⟨rfl, hb1⟩
      have d0 := later hb1 (d.cell 0 rfl)
      have d1 := later hb1 (d.cell 1 rfl)
      have d2 := later hb1 (d.cell 2 rfl)
      have d3 := later hb1 (d.cell 3 rfl)
      have HB1 := hid (ext_trans HB.out hb1)
      clear hb1 d
      go_wp2_with fail
      refine (HC.out _ HB1.out).mono ?_
      rintro e' w2 ⟨rfl, hb2⟩
      have f0 := later hb2 d0
      have f1 := later hb2 d1
      have f2 := later hb2 d2
      have f3 := later hb2 d3
      have HB2 := hid (ext_trans HB1.out hb2)
      have HB3 : Hid (Below w.heap.size w (w2.alloc (.cells #[.int .i64 T, .int .i64 V, .int .i64 S, .slice a k cap] 24))) := hid (ext_alloc HB2.out _)
      have g3 := cell_alloc (x := .cells #[.int .i64 T, .int .i64 V, .int .i64 S, .slice a l.length cap] 24) f3
      clear hb2 d0 d1 d2 d3
      go_wp2_with fail
      refine (HC2.out _ HB3.out).mono ?_
      rintro e' w3 ⟨rfl, hb3⟩
      have HB4 := hid (ext_trans HB3.out hb3)
      clear hb3
      go_wp2_with fail
      go_ret
      exact ⟨rfl, HB4.out⟩
    · rw [if_neg hkc] at HC2
      have i1 : decide ((k : Int) ≤ (c : Int)) = false := by rw [decide_eq_false_iff_not]; omega
      have i2 : decide (k ≤ c) = false := by rw [decide_eq_false_iff_not]; exact hkc
      clear hkc
      go_enter Tryd.func4, Tryd.ntmps4
      go_wp2_with fail
      refine (HW.out _ HB.out).mono ?_
      rintro e' w1 ⟨rfl, hb1⟩
      have d0 := later hb1 (d.cell 0 rfl)
      have d1 := later hb1 (d.cell 1 rfl)
      have d2 := later hb1 (d.cell 2 rfl)
      have d3 := later hb1 (d.cell 3 rfl)
      have HB1 := hid (ext_trans HB.out hb1)
      clear hb1 d
      go_wp2_with fail
      refine (HC.out _ HB1.out).mono ?_
      rintro e' w2 ⟨rfl, hb2⟩
      have f0 := later hb2 d0
      have f1 := later hb2 d1
      have f2 := later hb2 d2
      have f3 := later hb2 d3
      have HB2 := hid (ext_trans HB1.out hb2)
      have HB3 : Hid (Below w.heap.size w (w2.alloc (.cells #[.int .i64 T, .int .i64 V, .int .i64 S, .slice a k cap] 24))) := hid (ext_alloc HB2.out _)
      have g3 := cell_alloc (x := .cells #[.int .i64 T, .int .i64 V, .int .i64 S, .slice a l.length cap] 24) f3
      clear hb2 d0 d1 d2 d3
      go_wp2_with fail
      refine (HC2.out _ HB3.out).mono ?_
      rintro e' w3 ⟨rfl, hb3⟩
      have HB4 := hid (ext_trans HB3.out hb3)
      clear hb3
      go_wp2_with fail
      go_ret
      exact ⟨rfl, HB4.out⟩
theorem shapePrefix_any (T V S : Int) (a : Option Addr) (l : List Ev) (cap : Nat) (n : Int) (w : World) (hcap : l.length ≤ cap) (hE : EvsAt w a l) (hK : KindsAt w) (hT : TabOk w) :
    Calls Tryd.prog 4 #[trA T V S a l.length cap, .int .i64 n] w fun e w' => e = .returned (.bool true) ∧ Below w.heap.size w w' := by
  by_cases hl : 2000 < l.length
  · exact prefix_great T V S a _ cap n w hl hK hT
  have hl' : l.length ≤ 2000 := by omega
  rcases checkT_cases T V S l hl' with ⟨-, hz⟩ | ⟨hz, c, hcl, hc, h⟩
  · exact prefix_arg T V S a l cap n w hl' hz hE hK hT
  · have hk : ∀ k : Nat, k ≤ l.length → checkT T V S (l.take k) = if k ≤ c then ((k : Int), 0) else ((c : Int), 4) := fun k hk => checkT_take hz hl' hc hcl hk
    rcases h with ⟨h1, h2⟩ | ⟨h1, h2⟩
    · exact prefix_ok T V S a l cap n w hl' hcap c _ _ (Or.inl ⟨rfl, rfl, h1⟩) h2 hk hE hK hT
    · exact prefix_ok T V S a l cap n w hl' hcap c _ _ (Or.inr ⟨rfl, rfl, h1⟩) h2 hk hE hK hT
end Go.Proofs.YtmgchpijkdammaaDoor
