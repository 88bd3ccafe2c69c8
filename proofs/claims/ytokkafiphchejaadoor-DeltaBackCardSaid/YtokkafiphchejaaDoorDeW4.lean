/-
  Walks: the writer's closure for whole numbers.
-/
import Derived.Test.YtokkafiphchejaaDoorDeW3
namespace Go.Proofs.YtokkafiphchejaaDoor
set_option linter.unusedVariables false
set_option linter.unusedSimpArgs false
open Go Go.RowKit
/-- What holds while a number is written. -/
structure WI (w : World) (b : Nat) (y : Int) (n : Nat) (S : ByteArray) (l : Nat → Bool) (v : Nat → Value) (w' : World) : Prop where
  ord : l 5 = true → ∀ i, i < 5 → l i = true
  low : l 5 = false → Below w.heap.size w w'
  v0 : l 0 = true → v 0 = .string S
  v1 : l 1 = true → v 1 = .int .i64 y
  v2 : l 2 = true → v 2 = .int .u64 (n : Int)
  v3 : l 3 = true → ∃ s, v 3 = .string s ∧ byt s = putN n
  v4 : l 4 = true → ∃ s, v 4 = .string s ∧ byt s = byt S ++ putN n
  fin : l 5 = true → ∃ S', byt S' = byt S ++ putN n ∧ Blk w' b #[.string S'] 9 ∧ Turn [b] w w'
theorem WI.ext {w : World} {b n : Nat} {y : Int} {S : ByteArray} {l l' : Nat → Bool} {v : Nat → Value} {w' : World} (h : ∀ i, i < 6 → l i = l' i) (H : WI w b y n S l v w') : WI w b y n S l' v w' where
  ord g i hi := by rw [← h i (by omega)]; exact H.ord (by rw [h 5 (by omega)]; exact g) i hi
  low g := H.low (by rw [h 5 (by omega)]; exact g)
  v0 g := H.v0 (by rw [h 0 (by omega)]; exact g)
  v1 g := H.v1 (by rw [h 1 (by omega)]; exact g)
  v2 g := H.v2 (by rw [h 2 (by omega)]; exact g)
  v3 g := H.v3 (by rw [h 3 (by omega)]; exact g)
  v4 g := H.v4 (by rw [h 4 (by omega)]; exact g)
  fin g := H.fin (by rw [h 5 (by omega)]; exact g)
theorem WI.put {w : World} {b n : Nat} {y : Int} {S : ByteArray} {l : Nat → Bool} {v : Nat → Value} {w' w'' : World} {x : Value} (i : Nat) (hi : i < 5) (hl : l i = false) (H : WI w b y n S l v w') (hb : Below w'.heap.size w' w'')
    (h0 : i = 0 → x = .string S) (h1 : i = 1 → x = .int .i64 y) (h2 : i = 2 → x = .int .u64 (n : Int)) (h3 : i = 3 → ∃ s, x = .string s ∧ byt s = putN n) (h4 : i = 4 → ∃ s, x = .string s ∧ byt s = byt S ++ putN n) : WI w b y n S (doneL l i) (doneV v i x) w'' := by
  have h5 : l 5 = false := by
    cases h : l 5 with
    | false => rfl
    | true => rw [H.ord h i hi] at hl; cases hl
  have e5 : doneL l i 5 = false := by unfold doneL; rw [if_neg (by omega)]; exact h5
  refine ⟨(fun g => by rw [e5] at g; cases g), fun _ => ext_trans (H.low h5) hb, fun g => ?_, fun g => ?_, fun g => ?_, fun g => ?_, fun g => ?_, (fun g => by rw [e5] at g; cases g)⟩
  · unfold doneL at g; unfold doneV
    by_cases hh : 0 = i
    · rw [if_pos hh]; exact h0 hh.symm
    · rw [if_neg hh] at g ⊢; exact H.v0 g
  · unfold doneL at g; unfold doneV
    by_cases hh : 1 = i
    · rw [if_pos hh]; exact h1 hh.symm
    · rw [if_neg hh] at g ⊢; exact H.v1 g
  · unfold doneL at g; unfold doneV
    by_cases hh : 2 = i
    · rw [if_pos hh]; exact h2 hh.symm
    · rw [if_neg hh] at g ⊢; exact H.v2 g
  · unfold doneL at g; unfold doneV
    by_cases hh : 3 = i
    · rw [if_pos hh]; exact h3 hh.symm
    · rw [if_neg hh] at g ⊢; exact H.v3 g
  · unfold doneL at g; unfold doneV
    by_cases hh : 4 = i
    · rw [if_pos hh]; exact h4 hh.symm
    · rw [if_neg hh] at g ⊢; exact H.v4 g
set_option maxRecDepth 100000 in
set_option maxHeartbeats 4000000 in
theorem wint_any (y : Int) (S : ByteArray) (b : Nat) (w : World) (hB : Blk w b #[.string S] 9) (hy : -9223372036854775808 ≤ y ∧ y ≤ 9223372036854775807) (hS : S.size ≤ 1000) : Calls Tryd.prog 33 #[.int .i64 y, .pointer (some ⟨b, 0, none⟩)] w (WNumP b (.int .i64 y) S (putN (zigZ y)) w) := by
  have hn := zig_lt y hy
  have HZ := hid (fun W => zig_any y W hy)
  generalize zigZ y = n at hn HZ ⊢
  have HB := hid hB
  have HP := hid (fun W => vput_any n W (by omega))
  have HS := hid hS
  unfold WNumP
  unfold StrOf at HP
  clear hB hn hS hy
  go_enter Tryd.func33, Tryd.ntmps33
  go_wp2_with fail
  apply wp_region_inv' (WI w b y n S)
  focus (intro vals; simp [putAll, dstOf, Act.put]; rfl)
  case hm => kernel_rfl
  case hd => kernel_rfl
  case hb => kernel_rfl
  case hng => kernel_rfl
  case hsz => kernel_rfl
  case hext => exact fun l l' v w' h H => H.ext h
  case h0 => exact ⟨(fun h => by cases h), fun _ => ext_drew (ext_refl _), (fun h => by cases h), (fun h => by cases h), (fun h => by cases h), (fun h => by cases h), (fun h => by cases h), (fun h => by cases h)⟩
  case hstep =>
    refine ⟨?_, ?_, ?_, ?_, ?_, ?_, trivial⟩
    all_goals (
      intro l vs w' hi hd hJ
      refine ⟨(fun g b h => by cases h), fun _ ρ h1 h2 h3 h4 h5 => ?_⟩
      have HJ := hid hJ
      clear hJ)
    · have f2 := h5 1 (by kernel_rfl)
      have h55 : l 5 = false := by
        cases h : l 5 with
        | false => rfl
        | true => rw [HJ.out.ord h 0 (by omega)] at hi; cases hi
      have c0 := (HB.out.below (HJ.out.low h55)).cell 0 rfl
      clear h4 h5
      unfold OpY
      go_simp
      exact HJ.out.put 0 (by omega) hi (ext_refl _) (fun _ => rfl) (fun h => by cases h) (fun h => by cases h) (fun h => by cases h) (fun h => by cases h)
    · have f0 := h5 0 (by kernel_rfl)
      clear h4 h5
      unfold OpY
      go_simp
      exact HJ.out.put 1 (by omega) hi (ext_refl _) (fun h => by cases h) (fun _ => rfl) (fun h => by cases h) (fun h => by cases h) (fun h => by cases h)
    · have f1 := (h4 1 5 (by kernel_rfl) (by kernel_rfl)).trans (HJ.out.v1 (hd 1 (by kernel_rfl)))
      clear h4 h5
      unfold OpY
      go_simp
      unfold OpR
      refine (HZ.out _).mono ?_
      rintro e' w1 ⟨rfl, rfl⟩
      exact ⟨_, rfl, HJ.out.put 2 (by omega) hi (ext_refl _) (fun h => by cases h) (fun h => by cases h) (fun _ => rfl) (fun h => by cases h) (fun h => by cases h)⟩
    · have f1 := (h4 2 6 (by kernel_rfl) (by kernel_rfl)).trans (HJ.out.v2 (hd 2 (by kernel_rfl)))
      clear h4 h5
      unfold OpY
      go_simp
      unfold OpR
      refine (HP.out _).mono ?_
      rintro e' w1 ⟨s, rfl, hs, hb⟩
      exact ⟨_, rfl, HJ.out.put 3 (by omega) hi hb (fun h => by cases h) (fun h => by cases h) (fun h => by cases h) (fun _ => ⟨s, rfl, hs⟩) (fun h => by cases h)⟩
    · have f0 := (h4 0 4 (by kernel_rfl) (by kernel_rfl)).trans (HJ.out.v0 (hd 0 (by kernel_rfl)))
      obtain ⟨s, hv, hs⟩ := HJ.out.v3 (hd 3 (by kernel_rfl))
      have f3 := (h4 3 7 (by kernel_rfl) (by kernel_rfl)).trans hv
      have hsz : s.size ≤ 10 := by rw [← byt_len, hs]; exact putN_ten n
      have l1 : ¬ 9223372036854775807 < S.size + s.size := by have := HS.out; omega
      have HSS := hid hs
      clear h4 h5 hsz hv hs
      unfold OpY
      go_simp
      exact HJ.out.put 4 (by omega) hi (ext_refl _) (fun h => by cases h) (fun h => by cases h) (fun h => by cases h) (fun h => by cases h) (fun _ => ⟨_, rfl, by rw [byt_app, HSS.out]⟩)
    · have f2 := h5 1 (by kernel_rfl)
      obtain ⟨s, hv, hs⟩ := HJ.out.v4 (hd 4 (by kernel_rfl))
      have f4 := (h4 4 8 (by kernel_rfl) (by kernel_rfl)).trans hv
      have hbk := HB.out.below (HJ.out.low hi)
      have HBK := hid hbk
      have c0 := hbk.cell 0 rfl
      have z0 := hbk.free 0
      have HSS := hid hs
      have hdd : ∀ i, i < 5 → l i = true := by
        intro i h
        have : i = 0 ∨ i = 1 ∨ i = 2 ∨ i = 3 ∨ i = 4 := by omega
        rcases this with rfl | rfl | rfl | rfl | rfl
        · exact hd 0 (by kernel_rfl)
        · exact hd 1 (by kernel_rfl)
        · exact hd 2 (by kernel_rfl)
        · exact hd 3 (by kernel_rfl)
        · exact hd 4 (by kernel_rfl)
      have HDD := hid hdd
      clear hdd
      clear h4 h5 hv hs hbk
      unfold OpY
      go_simp
      have hx : WI w b y n S (doneL l 5) (doneV vs 5 undef) (w'.setCell ⟨b, 0, none⟩ (.string s)) := by
        have H := HJ.out
        have e : ∀ i, i < 5 → doneL l 5 i = l i := fun i h => by unfold doneL; rw [if_neg (by omega)]
        have g : ∀ i, i < 5 → doneV vs 5 undef i = vs i := fun i h => by unfold doneV; rw [if_neg (by omega)]
        refine ⟨fun _ i h => by rw [e i h]; exact HDD.out i h, fun h => ?_, fun h => ?_, fun h => ?_, fun h => ?_, fun h => ?_, fun h => ?_, fun _ => ⟨s, HSS.out, ?_, ?_⟩⟩
        · unfold doneL at h; rw [if_pos rfl] at h; cases h
        · rw [g 0 (by omega)]; exact H.v0 (by rw [← e 0 (by omega)]; exact h)
        · rw [g 1 (by omega)]; exact H.v1 (by rw [← e 1 (by omega)]; exact h)
        · rw [g 2 (by omega)]; exact H.v2 (by rw [← e 2 (by omega)]; exact h)
        · rw [g 3 (by omega)]; exact H.v3 (by rw [← e 3 (by omega)]; exact h)
        · rw [g 4 (by omega)]; exact H.v4 (by rw [← e 4 (by omega)]; exact h)
        · exact HBK.out.set 0 (.string s)
        · exact (Turn.of_below (H.low hi)).setCell (Or.inl (by simp)) _
      exact hx
  case hdone =>
    intro vs w' hJ
    have HF := hid (hJ.fin rfl)
    clear hJ
    go_wp2_with fail
    go_ret
    exact ⟨rfl, HF.out⟩
end Go.Proofs.YtokkafiphchejaaDoor
