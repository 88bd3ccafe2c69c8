/-
  Walks: the writer of a version (slices.ContainsFunc with its closure), and the greatest version.
-/
import Derived.Test.YtcdgfnocjnampaaSlR
import Derived.Test.YtcdgfnocjnampaaProg
import Derived.WalkKit
namespace Go.Proofs.Ytcdgfnocjnampaa
set_option linter.unusedVariables false
set_option linter.unusedSimpArgs false
set_option linter.unusedVariables false
open Go Go.RowKit
/-- The place of the first pair of a variable; -1: none. -/
def findP (v : Int) : List (Int × Int) → Nat → Int
  | [], _ => -1
  | x :: xs, k => if (x.1 == v) = true then k else findP v xs (k + 1)
theorem findP_any (v : Int) (l : List (Int × Int)) (k : Nat) : decide (0 ≤ findP v l k) = l.any (fun p => p.1 == v) := by
  induction l generalizing k with
  | nil => simp [findP]
  | cons x xs ih =>
    simp only [findP, List.any_cons]
    split
    · rename_i h; simp [h]
    · rename_i h; simp [ih, h]
theorem findP_drop (v : Int) (l : List (Int × Int)) (k : Nat) (h : k < l.length) : findP v (l.drop k) k = if (l[k].1 == v) = true then (k : Int) else findP v (l.drop (k + 1)) (k + 1) := by
  rw [List.drop_eq_getElem_cons h]; rfl
set_option maxRecDepth 100000 in
set_option maxHeartbeats 4000000 in
theorem wrote1_any (p1 p2 v : Int) (b : Nat) (w : World) (h : w.cell? ⟨b, 0, none⟩ = some (.int .i64 v)) :
    Calls Try.prog 19 #[.agg #[.int .i64 p1, .int .i64 p2], .pointer (some ⟨b, 0, none⟩)] w fun e w' => e = .returned (.bool (p1 == v)) ∧ Below w.heap.size w w' := by
  have h1 : (w.alloc (.cells #[.int .i64 p1, .int .i64 p2] 31)).cell? ⟨b, 0, none⟩ = some (.int .i64 v) := cell_alloc h
  have hl := lt_of_cell h
  go_enter Try.func19, Try.ntmps19
  go_wp2_with fail
  go_ret
  exact ⟨rfl, ext_alloc (ext_refl _) _⟩
set_option maxRecDepth 100000 in
set_option maxHeartbeats 4000000 in
theorem index_any (l : List (Int × Int)) (v : Int) (c : Nat) (w : World) (sv : Value) (hr : RdPairs w l sv) (hc : w.cell? ⟨c, 0, none⟩ = some (.int .i64 v)) :
    Calls Try.prog 25 #[sv, .func (.func 19) #[] #[.pointer (some ⟨c, 0, none⟩)]] w fun e' w' => e' = .returned (.int .i64 (findP v l 0)) ∧ Below w.heap.size w w' := by
  obtain ⟨a, cap, rfl, hlen, hok, hx⟩ := hr
  have HX := hid hx; clear hx
  go_enter Try.func25, Try.ntmps25
  go_wp2_with fail
  go_loopw [8] (fun i wr => ∃ k : Nat, k ≤ l.length ∧ i = .int .i64 k ∧ Hid (findP v l 0 = findP v (l.drop k) k) ∧ Below w.heap.size w wr) (fun i _ => l.length - (intOf i).toNat)
  case atStart => exact ⟨0, Nat.zero_le _, rfl, rfl, ext_refl _⟩
  case round =>
    obtain ⟨k, hk, rfl, HF, hb⟩ := hrel
    by_cases hlt : k < l.length
    · obtain ⟨b, off, rfl, hrd⟩ := HX.out (by intro h; subst h; simp at hlt)
      obtain ⟨c0, c1⟩ := hrd k hlt
      have d0 := later hb c0
      have d1 := later hb c1
      have HC := hid (later hb hc)
      have HD := hid (findP_drop v l k hlt)
      clear c0 c1 hrd
      go_wp2_with fail
      refine (wrote1_any _ _ v c _ HC.out).mono ?_
      rintro e w1 ⟨rfl, hb1⟩
      obtain ⟨q, hq⟩ : ∃ q, q = (l[k].1 == v) := ⟨_, rfl⟩
      rw [← hq]
      have HQ := hid hq
      clear hq
      cases q
      · go_wp2_with fail
        go_roundw
        case rel => exact ⟨k + 1, hlt, by go_num, hid (by rw [HF.out, HD.out, ← HQ.out]; simp), ext_trans hb hb1⟩
        case measure => simp [intOf]; omega
      · go_wp2_with fail
        go_ret
        exact ⟨ret_int (by rw [HF.out, HD.out, ← HQ.out]; simp), ext_trans hb hb1⟩
    · obtain rfl : k = l.length := by omega
      go_wp2_with fail
      go_ret
      exact ⟨ret_int (by rw [HF.out]; simp [findP]), hb⟩
set_option maxRecDepth 100000 in
set_option maxHeartbeats 4000000 in
theorem contains_any (l : List (Int × Int)) (v : Int) (c : Nat) (w : World) (sv : Value) (hr : RdPairs w l sv) (hc : w.cell? ⟨c, 0, none⟩ = some (.int .i64 v)) :
    Calls Try.prog 18 #[sv, .func (.func 19) #[] #[.pointer (some ⟨c, 0, none⟩)]] w fun e' w' => e' = .returned (.bool (l.any fun p => p.1 == v)) ∧ Below w.heap.size w w' := by
  have HI := hid (index_any l v c w sv hr hc)
  have HF := hid (findP_any v l 0)
  generalize findP v l 0 = i at HI HF
  obtain ⟨q, hq⟩ : ∃ q, q = decide ((0 : Int) ≤ i) := ⟨_, rfl⟩
  have hqi : decide ((0 : Int) ≤ i) = q := hq.symm
  rw [hqi] at HF
  rw [← HF.out]
  obtain ⟨a, cap, rfl⟩ := hr.shape
  clear hr hq
  go_enter Try.func18, Try.ntmps18
  go_wp2_with fail
  refine HI.out.mono ?_
  rintro e' w1 ⟨rfl, hb1⟩
  cases q
  all_goals
    go_wp2_with fail
    go_ret
    exact ⟨rfl, hb1⟩
set_option maxRecDepth 100000 in
set_option maxHeartbeats 4000000 in
theorem top_any (L : List Att) (w : World) (v : Value) (hr : RdAtts w L v) :
    Calls Try.prog 12 #[v] w fun e' w' => e' = .returned (.int .i64 (topL L)) ∧ Below w.heap.size w w' := by
  obtain ⟨a, cap, rfl, hlen, hx⟩ := hr
  have HX := hid hx; clear hx
  go_enter Try.func12, Try.ntmps12
  go_wp2_with fail
  go_loopw [3, 8] (fun n i wr => ∃ k : Nat, k ≤ L.length ∧ i = .int .i64 k ∧ n = .int .i64 (topK L k) ∧ Below w.heap.size w wr) (fun _ i _ => L.length - (intOf i).toNat)
  case atStart => exact ⟨0, Nat.zero_le _, rfl, rfl, ext_refl _⟩
  case round =>
    obtain ⟨k, hk, rfl, rfl, hb⟩ := hrel
    by_cases hlt : k < L.length
    · obtain ⟨b, off, rfl, hrd⟩ := HX.out (by intro h; subst h; simp at hlt)
      obtain ⟨r, u, hc⟩ := hrd k hlt
      have hc := hc.below hb
      obtain ⟨ar, cr, hr⟩ := hc.reads.shape
      obtain ⟨au, cu, hu⟩ := hc.writes.shape
      have hT : topK L (k + 1) = max (topK L k) L[k].wv := by
        show max (topK L k) (L.getD k Att.zero).wv = _
        rw [List.getD_eq_getElem?_getD, List.getElem?_eq_getElem hlt]; rfl
      subst hr hu
      have d0 := hc.c0
      have d1 := hc.c1
      have d2 := hc.c2
      have d3 := hc.c3
      have d4 := hc.c4
      have d5 := hc.c5
      have d6 := hc.c6
      have d7 := hc.c7
      have d8 := hc.c8
      have hbl := lt_of_cell d0
      have HT := hid hT
      clear hc hrd hT
      go_wp2_with fail
      all_goals
        go_roundw
        case rel => exact ⟨k + 1, hlt, by go_num, (by rw [HT.out]; first | go_num | (congr 1; omega)), ext_alloc hb _⟩
        case measure => simp [intOf]; omega
    · obtain rfl : k = L.length := by omega
      go_wp2_with fail
      go_ret
      exact ⟨rfl, hb⟩
end Go.Proofs.Ytcdgfnocjnampaa
