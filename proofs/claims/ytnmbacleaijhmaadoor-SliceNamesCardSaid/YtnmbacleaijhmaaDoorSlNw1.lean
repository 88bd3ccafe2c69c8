/-
  SliceNames: the examples in memory.
-/
import Derived.Test.YtnmbacleaijhmaaDoorSlC4
import Derived.Test.YtnmbacleaijhmaaDoorSlNp
namespace Go.Proofs.YtnmbacleaijhmaaDoor
set_option linter.unusedVariables false
set_option linter.unusedSimpArgs false
set_option linter.unusedVariables false
open Go Go.RowKit
set_option maxRecDepth 100000 in
set_option maxHeartbeats 4000000 in
theorem three_own (w : World) : Calls Tryd.prog 8 #[] w fun e w' => e = .returned (.slice (some ⟨w.heap.size + 4, 0, none⟩) 3 3) ∧ Blk w' w.heap.size #[.int .i64 0, .int .i64 0] 67 ∧ Blk w' (w.heap.size + 1) #[.int .i64 1, .int .i64 0] 67 ∧
    Blk w' (w.heap.size + 2) #[.int .i64 0, .int .i64 0] 67 ∧ Blk w' (w.heap.size + 3) #[.int .i64 1, .int .i64 0] 67 ∧ Blk w' (w.heap.size + 4) (threeC w.heap.size) 27 ∧ Below w.heap.size w w' := by
  have HP := hid (pair_any)
  go_enter Tryd.func8, Tryd.ntmps8
  go_wp2_with fail
  refine (HP.out 0 _).mono ?_
  rintro e' w1 ⟨rfl, rfl⟩
  go_wp2_with fail
  refine (HP.out 1 _).mono ?_
  rintro e' w1 ⟨rfl, rfl⟩
  go_wp2_with fail
  refine (HP.out 0 _).mono ?_
  rintro e' w1 ⟨rfl, rfl⟩
  go_wp2_with fail
  refine (HP.out 1 _).mono ?_
  rintro e' w1 ⟨rfl, rfl⟩
  go_wp2_with fail
  go_ret
  exact ⟨by simp, ((((Blk.new _ _ _).alloc _).alloc _).alloc _).alloc _, (((Blk.new' _ _ _ (by simp)).alloc _).alloc _).alloc _, ((Blk.new' _ _ _ (by simp)).alloc _).alloc _, (Blk.new' _ _ _ (by simp)).alloc _, Blk.new' _ _ _ (by simp), by repeat (first | assumption | exact ext_refl _ | refine ext_drew ?_ | refine ext_alloc ?_ _ | refine ext_trans ?_ (by assumption))⟩
/-- The cells of the first turned examples. -/
def namAC (b : Nat) : Array Value := #[.int .i64 0, .int .i64 0, .int .i64 0, .int .i64 1, .int .i64 0, .int .i64 2, .bool true, .slice none 0 0, .slice (some ⟨b, 0, none⟩) 1 1,
  .int .i64 1, .int .i64 0, .int .i64 2, .int .i64 3, .int .i64 2, .int .i64 4, .bool true, .slice (some ⟨b + 1, 0, none⟩) 1 1, .slice (some ⟨b + 2, 0, none⟩) 1 1,
  .int .i64 2, .int .i64 0, .int .i64 4, .int .i64 5, .int .i64 0, .int .i64 3, .bool true, .slice none 0 0, .slice (some ⟨b + 3, 0, none⟩) 1 1]
theorem namA_set {w : World} {b c : Nat} (h : Blk w c (threeC b) 27) : Blk ((w.setCell ⟨c, 23, none⟩ (.int .i64 3)).setCell ⟨c, 14, none⟩ (.int .i64 4)) c (namAC b) 27 := by
  have := (h.set 23 (.int .i64 3)).set 14 (.int .i64 4)
  simpa [threeC, namAC] using this
set_option maxRecDepth 100000 in
theorem rdNamA {w : World} {b c : Nat} (h0 : Blk w b #[.int .i64 0, .int .i64 0] 67) (h1 : Blk w (b + 1) #[.int .i64 1, .int .i64 0] 67) (h2 : Blk w (b + 2) #[.int .i64 0, .int .i64 0] 67) (h3 : Blk w (b + 3) #[.int .i64 1, .int .i64 0] 67) (h : Blk w c (namAC b) 27) : RdAtts w namA (.slice (some ⟨c, 0, none⟩) 3 3) := by
  refine ⟨_, 3, rfl, by simp [namA], fun _ => ⟨c, 0, rfl, fun k hk => ?_⟩⟩
  have e0 : B64 0 := by unfold B64; omega
  have e1 : B64 1 := by unfold B64; omega
  have e2 : B64 2 := by unfold B64; omega
  have e3 : B64 3 := by unfold B64; omega
  have e4 : B64 4 := by unfold B64; omega
  have e5 : B64 5 := by unfold B64; omega
  rcases k with _ | _ | _ | k
  · exact ⟨_, _, ⟨e0, e0, e0, e1, e0, e2⟩, h.cell 0 rfl, h.cell 1 rfl, h.cell 2 rfl, h.cell 3 rfl, h.cell 4 rfl, h.cell 5 rfl, h.cell 6 rfl, h.cell 7 rfl, h.cell 8 rfl, rdPairs_none w, rdPairs_one h0 e0⟩
  · exact ⟨_, _, ⟨e1, e0, e2, e3, e2, e4⟩, h.cell 9 rfl, h.cell 10 rfl, h.cell 11 rfl, h.cell 12 rfl, h.cell 13 rfl, h.cell 14 rfl, h.cell 15 rfl, h.cell 16 rfl, h.cell 17 rfl, rdPairs_one h1 e1, rdPairs_one h2 e0⟩
  · exact ⟨_, _, ⟨e2, e0, e4, e5, e0, e3⟩, h.cell 18 rfl, h.cell 19 rfl, h.cell 20 rfl, h.cell 21 rfl, h.cell 22 rfl, h.cell 23 rfl, h.cell 24 rfl, h.cell 25 rfl, h.cell 26 rfl, rdPairs_none w, rdPairs_one h3 e1⟩
  · simp [namA] at hk; omega
/-- Kept of some attempts, as a row of numbers that is known. -/
theorem kept_row {L : List Att} {vars : List Int} {K : List Nat} (hK : keptL L vars = K) (hb : (roots L vars).length + L.length * askN L ≤ 1000000000000) (hl : L.length ≤ 1000000000) (w : World) (vl vv : Value) (h1 : RdAtts w L vl) (h2 : RdI w vars vv) :
    Calls Tryd.prog 10 #[vl, vv] w fun e w' => ∃ a c, e = .returned (.slice a K.length c) ∧ RdNats w' K (.slice a K.length c) ∧ Below w.heap.size w w' :=
  (kept_any L vars w vl vv h1 h2 hb hl).mono (by
    rintro e w' ⟨v, rfl, h3, h4⟩
    rw [hK] at h3
    obtain ⟨a, c, rfl⟩ := own_sl h3
    exact ⟨a, c, rfl, rdNats_of_own h3, h4⟩)
theorem numbers_yes (K : List Nat) (hl : K.length ≤ 1000000000) (w : World) (v u : Value) (h1 : RdNats w K v) (h2 : RdNats w K u) : Calls Tryd.prog 9 #[v, u] w fun e' w' => e' = .returned (.bool true) ∧ Below w.heap.size w w' := by
  have := numbers_any K K w v u h1 h2 hl hl
  rwa [decide_eq_true rfl] at this
set_option maxRecDepth 100000 in
set_option maxHeartbeats 4000000 in
theorem ev_any (th kind at_ v : Int) (w : World) : Calls Tryd.prog 11 #[.int .i64 th, .int .u8 kind, .int .i64 at_, .int .i64 v] w fun e w' => e = .returned (.agg #[.int .u8 kind, .int .i64 th, .int .i64 0, .int .i64 at_, .int .i64 v, .int .i64 0, .int .u8 0]) ∧ Below w.heap.size w w' := by
  go_enter Tryd.func11, Tryd.ntmps11
  go_wp2_with fail
  have hb := Blk.new w #[.int .u8 kind, .int .i64 th, .int .i64 0, .int .i64 at_, .int .i64 v, .int .i64 0, .int .u8 0] 32
  have q0 := hb.cell 0 (v := .int .u8 kind) rfl
  have q1 := hb.cell 1 (v := .int .i64 th) rfl
  have q2 := hb.cell 2 (v := .int .i64 0) rfl
  have q3 := hb.cell 3 (v := .int .i64 at_) rfl
  have q4 := hb.cell 4 (v := .int .i64 v) rfl
  have q5 := hb.cell 5 (v := .int .i64 0) rfl
  have q6 := hb.cell 6 (v := .int .u8 0) rfl
  exact bodyPost_ret (v := .agg #[.int .u8 kind, .int .i64 th, .int .i64 0, .int .i64 at_, .int .i64 v, .int .i64 0, .int .u8 0]) (by simp [results, Tryd.results11, go_sem, q0, q1, q2, q3, q4, q5, q6]) rfl ⟨rfl, ext_alloc (ext_refl _) _⟩
theorem evN_ok : ∀ e ∈ evN, EvOk e := by unfold EvOk; decide +kernel
theorem evN_at {w : World} {b : Nat} (h : Blk w b (evN.flatMap evL).toArray 32) : EvsAt w (some ⟨b, 0, none⟩) evN :=
  ⟨evN_ok, fun _ => ⟨b, 0, rfl, fun k hk j u hu => by
    rw [Nat.zero_add]
    exact h.cell (k * 7 + j) (by rw [List.getElem?_toArray]; exact flat_at evN k hk j u hu)⟩⟩
theorem code_n (F : List Int) (h : F.any (outV 2) = false) : byCode 3 2 2 evN F = 0 := by unfold byCode; rw [evN_fine, if_neg (by decide), h]; rfl
theorem code_a (F : List Int) (h : F.any (outV 2) = true) : byCode 3 2 2 evN F = 1 := by unfold byCode; rw [evN_fine, if_neg (by decide), h]; rfl
theorem code_t (F : List Int) : byCode 3 2 2 evN.tail F = 4 := by unfold byCode; rw [evN_tail, if_pos (by decide)]
theorem evs_n (F : List Int) (h : F.any (outV 2) = false) {K : List Nat} (hK : keptL (histT evN).out F = K) : byEvs 3 2 2 evN F = byF evN K evN.length := by unfold byEvs; rw [code_n F h, if_pos rfl, hK]
end Go.Proofs.YtnmbacleaijhmaaDoor
