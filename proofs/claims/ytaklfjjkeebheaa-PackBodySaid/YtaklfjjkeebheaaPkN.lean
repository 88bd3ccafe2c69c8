/-
  Walks: the statement's own helpers: framed, bare; the document's Same of the bare setup.
-/
import Derived.Test.YtaklfjjkeebheaaPkK
import Derived.Test.YtaklfjjkeebheaaPkL
namespace Go.Proofs.Ytaklfjjkeebheaa
set_option linter.unusedVariables false
set_option linter.unusedSimpArgs false
set_option linter.unusedVariables false
open Go Go.RowKit
set_option maxRecDepth 100000 in
set_option maxHeartbeats 4000000 in
theorem framed_any (b : ByteArray) (w : World) (hb : b.size ≤ 30000) : Calls Try.prog 5 #[.string b] w fun e w' => e = .returned (.string (bstr (frameL (byt b)))) ∧ Below w.heap.size w w' := by
  have HW := hid (wrap_x b w (by omega))
  rw [(unwrap_wrap (b := byt b) (by rw [byt_len]; omega) (byt_lt b)).1] at HW
  have hfl : putN (byt b).length ++ byt b ++ sealN (sumN (putN (byt b).length ++ byt b)) = frameL (byt b) := rfl
  rw [hfl] at HW
  clear hb hfl
  go_enter Try.func5, Try.ntmps5
  go_wp2_with fail
  refine HW.out.mono ?_
  rintro e' w1 ⟨rfl, hb1⟩
  have HB1 := hid hb1
  clear hb1
  go_wp2_with fail
  go_ret
  exact ⟨rfl, HB1.out⟩
def bareS : Su := ⟨1, 0, 1, [5], []⟩
theorem bareB : setupB bareS = [1, 10, 1, 0, 1, 0] := by decide +kernel
set_option maxRecDepth 100000 in
set_option maxHeartbeats 4000000 in
theorem bare_any (w : World) : Calls Try.prog 8 #[] w fun e w' => (∃ g, e = .returned (.agg #[.int .i64 1, .int .i64 0, .int .i64 1, .slice (some ⟨g, 0, none⟩) 1 1, .slice none 0 0]) ∧ Blk w' g #[.int .i64 5] 2) ∧ Below w.heap.size w w' := by
  go_enter Try.func8, Try.ntmps8
  go_wp2_with fail
  have hs : Blk ((w.alloc (.cells #[.int .i64 1, .int .i64 0, .int .i64 1, .slice (some ⟨w.heap.size + 1, 0, none⟩) 1 1, .slice none 0 0] 27)).alloc (.cells #[.int .i64 5] 2)) w.heap.size #[.int .i64 1, .int .i64 0, .int .i64 1, .slice (some ⟨w.heap.size + 1, 0, none⟩) 1 1, .slice none 0 0] 27 := (Blk.new _ _ _).alloc _
  have t0 := hs.cell 0 (v := .int .i64 1) rfl
  have t1 := hs.cell 1 (v := .int .i64 0) rfl
  have t2 := hs.cell 2 (v := .int .i64 1) rfl
  have t3 := hs.cell 3 (v := .slice (some ⟨w.heap.size + 1, 0, none⟩) 1 1) rfl
  have t4 := hs.cell 4 (v := .slice none 0 0) rfl
  refine bodyPost_ret (v := .agg #[.int .i64 1, .int .i64 0, .int .i64 1, .slice (some ⟨w.heap.size + 1, 0, none⟩) 1 1, .slice none 0 0]) (by simp [results, Try.results8, go_sem, t0, t1, t2, t3, t4]) rfl ?_
  exact ⟨⟨_, rfl, Blk.new' _ _ _ (by simp)⟩, ext_alloc (ext_alloc (ext_refl _) _) _⟩
set_option maxRecDepth 100000 in
set_option maxHeartbeats 4000000 in
theorem ints_five (a oa ca b ob cb : Nat) (w : World) (ha : w.cell? ⟨a, oa, none⟩ = some (.int .i64 5)) (hb : w.cell? ⟨b, ob, none⟩ = some (.int .i64 5)) :
    Calls Try.prog 41 #[.slice (some ⟨a, oa, none⟩) 1 ca, .slice (some ⟨b, ob, none⟩) 1 cb] w fun e w' => e = .returned (.bool true) ∧ Below w.heap.size w w' := by
  have HA := hid ha
  have HB := hid hb
  clear ha hb
  go_enter Try.func41, Try.ntmps41
  go_wp2_with fail
  go_loopw [5] (fun i wr => ∃ (k : Nat) (W' : World), W' = wr ∧ k ≤ 1 ∧ i = .int .i64 k ∧ Below w.heap.size w W') (fun i _ => 1 - (intOf i).toNat)
  case atStart => exact ⟨0, _, rfl, Nat.zero_le _, rfl, ext_refl _⟩
  case round =>
    obtain ⟨k, wr, hwr, hk, rfl, hb⟩ := hrel
    subst hwr
    have hkk : k = 0 ∨ k = 1 := by omega
    have HW := hid hb
    rcases hkk with rfl | rfl
    · have c0 := later hb HA.out
      have c1 := later hb HB.out
      clear hb hk
      go_wp2_with fail
      go_quiet (fail)
      go_wp2_with fail
      go_roundw
      case rel => exact ⟨1, _, rfl, Nat.le_refl _, rfl, ext_drewN HW.out _⟩
      case measure => simp [intOf]
    · clear hb hk
      go_wp2_with fail
      go_ret
      exact ⟨rfl, HW.out⟩
set_option maxRecDepth 100000 in
set_option maxHeartbeats 4000000 in
theorem same_bare (a oa ca b ob cb c1 c2 : Nat) (p1 p2 : Option Addr) (w : World) (ha : w.cell? ⟨a, oa, none⟩ = some (.int .i64 5)) (hb : w.cell? ⟨b, ob, none⟩ = some (.int .i64 5)) :
    Calls Try.prog 22 #[.agg #[.int .i64 1, .int .i64 0, .int .i64 1, .slice (some ⟨a, oa, none⟩) 1 ca, .slice p1 0 c1], .agg #[.int .i64 1, .int .i64 0, .int .i64 1, .slice (some ⟨b, ob, none⟩) 1 cb, .slice p2 0 c2]] w fun e w' => e = .returned (.bool true) ∧ Below w.heap.size w w' := by
  have HC := hid (fun (w' : World) (hb' : Below w.heap.size w w') => ints_five a oa ca b ob cb w' (later hb' ha) (later hb' hb))
  obtain ⟨W1, hW1⟩ : ∃ W1, W1 = (w.alloc (.cells #[.int .i64 1, .int .i64 0, .int .i64 1, .slice (some ⟨a, oa, none⟩) 1 ca, .slice p1 0 c1] 27)).alloc (.cells #[.int .i64 1, .int .i64 0, .int .i64 1, .slice (some ⟨b, ob, none⟩) 1 cb, .slice p2 0 c2] 27) := ⟨_, rfl⟩
  have hb1 : Below w.heap.size w W1 := by rw [hW1]; exact ext_alloc (ext_alloc (ext_refl _) _) _
  have hx : Blk W1 w.heap.size #[.int .i64 1, .int .i64 0, .int .i64 1, .slice (some ⟨a, oa, none⟩) 1 ca, .slice p1 0 c1] 27 := by rw [hW1]; exact (Blk.new _ _ _).alloc _
  have hy : Blk W1 (w.heap.size + 1) #[.int .i64 1, .int .i64 0, .int .i64 1, .slice (some ⟨b, ob, none⟩) 1 cb, .slice p2 0 c2] 27 := by rw [hW1]; exact Blk.new' _ _ _ (by simp)
  have HX := hid hx
  have HY := hid hy
  have HB1 := hid hb1
  have HW1 := hid hW1
  have HC1 := hid (HC.out W1 hb1)
  clear ha hb hb1 hx hy hW1
  go_enter Try.func22, Try.ntmps22
  go_wp2_with fail
  rw [← HW1.out]
  refine HC1.out.mono ?_
  rintro e' w2 ⟨rfl, hb2⟩
  have x4 := (HX.out.below hb2).cell 4 (v := .slice p1 0 c1) rfl
  have y4 := (HY.out.below hb2).cell 4 (v := .slice p2 0 c2) rfl
  have HB2 := hid (ext_trans HB1.out hb2)
  clear hb2
  go_wp2_with fail
  go_loopw [5, 6] (fun i _ wr => i = .int .i64 0 ∧ wr = w2) (fun _ _ _ => 0)
  case atStart => exact ⟨rfl, rfl⟩
  case round =>
    obtain ⟨rfl, rfl⟩ := hrel
    go_wp2_with fail
    go_ret
    exact ⟨rfl, HB2.out⟩
end Go.Proofs.Ytaklfjjkeebheaa
