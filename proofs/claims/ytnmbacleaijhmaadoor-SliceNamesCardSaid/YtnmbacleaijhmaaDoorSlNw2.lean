/-
  Walk: SliceNames.
-/
import Derived.Test.YtnmbacleaijhmaaDoorSlNw1
namespace Go.Proofs.YtnmbacleaijhmaaDoor
set_option linter.unusedVariables false
set_option linter.unusedSimpArgs false
set_option linter.unusedVariables false
open Go Go.RowKit
theorem rdI_3 {w : World} {b : Nat} {p q r : Int} (h : Blk w b #[.int .i64 p, .int .i64 q, .int .i64 r] 3) (hp : B64 p ∧ B64 q ∧ B64 r) : RdI w [p, q, r] (.slice (some ⟨b, 0, none⟩) 3 3) := by
  refine ⟨_, 3, rfl, by simp, fun y hy => ?_, fun _ => ⟨b, 0, rfl, fun k hk => ?_⟩, (fun h => by cases h)⟩
  · rcases List.mem_cons.1 hy with rfl | hy
    · exact hp.1
    · rcases List.mem_cons.1 hy with rfl | hy
      · exact hp.2.1
      · rw [List.mem_singleton.1 hy]; exact hp.2.2
  · rcases k with _ | _ | _ | k
    · exact h.cell 0 rfl
    · exact h.cell 1 rfl
    · exact h.cell 2 rfl
    · simp at hk; omega
theorem rdN_1 {w : World} {b p : Nat} (h : Blk w b #[.int .i64 (p : Int)] 3) : RdNats w [p] (.slice (some ⟨b, 0, none⟩) 1 1) := by
  refine ⟨_, 1, rfl, fun _ => ⟨b, 0, rfl, fun k hk => ?_⟩⟩
  obtain rfl : k = 0 := by simpa using hk
  exact h.cell 0 rfl
theorem rdN_2 {w : World} {b p q : Nat} (h : Blk w b #[.int .i64 (p : Int), .int .i64 (q : Int)] 3) : RdNats w [p, q] (.slice (some ⟨b, 0, none⟩) 2 2) := by
  refine ⟨_, 2, rfl, fun _ => ⟨b, 0, rfl, fun k hk => ?_⟩⟩
  rcases k with _ | _ | k
  · exact h.cell 0 rfl
  · exact h.cell 1 rfl
  · simp at hk; omega
theorem rdN_3 {w : World} {b p q r : Nat} (h : Blk w b #[.int .i64 (p : Int), .int .i64 (q : Int), .int .i64 (r : Int)] 3) : RdNats w [p, q, r] (.slice (some ⟨b, 0, none⟩) 3 3) := by
  refine ⟨_, 3, rfl, fun _ => ⟨b, 0, rfl, fun k hk => ?_⟩⟩
  rcases k with _ | _ | _ | k
  · exact h.cell 0 rfl
  · exact h.cell 1 rfl
  · exact h.cell 2 rfl
  · simp at hk; omega
theorem own_of_blk {W : World} {c n size base : Nat} {cs : Array Value} {t : TypeId} (h : Blk W c cs t) (hs : cs.size = n * size) (hb : base ≤ c) (hn : n ≤ maxLen) : W.ownsRow base t size (.slice (some ⟨c, 0, none⟩) n n) n cs.toList := by
  refine ⟨by rw [Array.length_toList, hs], .inr ⟨c, n, cs, rfl, hb, h, Nat.le_refl _, hn, hs, ?_⟩⟩
  rw [List.take_of_length_le (by rw [Array.length_toList, hs]; exact Nat.le_refl _)]
theorem infoAttN : (Tryd.prog.info? 27).map (fun i => (i.zero, i.size, i.bytes)) = some (some (.agg #[.int .i64 0, .int .i64 0, .int .i64 0, .int .i64 0, .int .i64 0, .int .i64 0, .bool false, .slice none 0 0, .slice none 0 0]), 9, 104) := by kernel_rfl
/-- The cells of the second turned examples' first three. -/
def namBC (b : Nat) : Array Value := #[.int .i64 0, .int .i64 0, .int .i64 0, .int .i64 (-1), .int .i64 0, .int .i64 2, .bool true, .slice none 0 0, .slice (some ⟨b, 0, none⟩) 1 1,
  .int .i64 1, .int .i64 0, .int .i64 2, .int .i64 3, .int .i64 2, .int .i64 4, .bool true, .slice (some ⟨b + 1, 0, none⟩) 1 1, .slice (some ⟨b + 2, 0, none⟩) 1 1,
  .int .i64 2, .int .i64 0, .int .i64 4, .int .i64 5, .int .i64 0, .int .i64 3, .bool true, .slice none 0 0, .slice (some ⟨b + 3, 0, none⟩) 1 1]
def newC : List Value := [.int .i64 0, .int .i64 0, .int .i64 6, .int .i64 7, .int .i64 0, .int .i64 0, .bool true, .slice none 0 0, .slice none 0 0, .int .i64 0, .int .i64 1, .int .i64 8, .int .i64 9, .int .i64 0, .int .i64 0, .bool false, .slice none 0 0, .slice none 0 0]
/-- All cells of the second turned examples. -/
def namBX (b : Nat) : List Value := [.int .i64 0, .int .i64 1, .int .i64 0, .int .i64 (-1), .int .i64 0, .int .i64 2, .bool true, .slice none 0 0, .slice (some ⟨b, 0, none⟩) 1 1,
  .int .i64 1, .int .i64 0, .int .i64 2, .int .i64 3, .int .i64 2, .int .i64 4, .bool true, .slice (some ⟨b + 1, 0, none⟩) 1 1, .slice (some ⟨b + 2, 0, none⟩) 1 1,
  .int .i64 2, .int .i64 0, .int .i64 4, .int .i64 5, .int .i64 0, .int .i64 3, .bool true, .slice none 0 0, .slice (some ⟨b + 3, 0, none⟩) 1 1,
  .int .i64 0, .int .i64 0, .int .i64 6, .int .i64 7, .int .i64 0, .int .i64 0, .bool true, .slice none 0 0, .slice none 0 0,
  .int .i64 0, .int .i64 1, .int .i64 8, .int .i64 9, .int .i64 0, .int .i64 0, .bool false, .slice none 0 0, .slice none 0 0]
theorem namBX_is (b : Nat) : ((namBC b).toList ++ newC).set 1 (.int .i64 1) = namBX b := rfl
theorem row_blk {W : World} {base e size n : Nat} {v : Value} {xs : List Value} (h : W.ownsRow base e size v n xs) (hn : 0 < n) : ∃ g cap cur, v = .slice (some ⟨g, 0, none⟩) n cap ∧ base ≤ g ∧ Blk W g cur e ∧ ∀ k, k < n * size → cur[k]? = xs[k]? := by
  rcases h.2 with ⟨_, h0⟩ | ⟨g, cap, cur, rfl, hb, hg, h1, h2, h3, h4⟩
  · omega
  · refine ⟨g, cap, cur, rfl, hb, hg, fun k hk => ?_⟩
    rw [← h4, List.getElem?_take, if_pos hk]
    simp
set_option maxRecDepth 100000 in
theorem rdNamB {w : World} {b g cap : Nat} (h0 : Blk w b #[.int .i64 0, .int .i64 0] 67) (h1 : Blk w (b + 1) #[.int .i64 1, .int .i64 0] 67) (h2 : Blk w (b + 2) #[.int .i64 0, .int .i64 0] 67) (h3 : Blk w (b + 3) #[.int .i64 1, .int .i64 0] 67) (hc : ∀ (k : Nat) (u : Value), (namBX b)[k]? = some u → w.cell? ⟨g, k, none⟩ = some u) : RdAtts w namB (.slice (some ⟨g, 0, none⟩) 5 cap) := by
  refine ⟨_, cap, rfl, by simp [namB], fun _ => ⟨g, 0, rfl, fun k hk => ?_⟩⟩
  have e (n : Int) (h1 : -10 ≤ n) (h2 : n ≤ 10) : B64 n := by unfold B64; omega
  have e0 := e 0 (by decide) (by decide)
  rcases k with _ | _ | _ | _ | _ | k
  · exact ⟨_, _, ⟨e 0 (by decide) (by decide), e 1 (by decide) (by decide), e 0 (by decide) (by decide), e (-1) (by decide) (by decide), e 0 (by decide) (by decide), e 2 (by decide) (by decide)⟩, hc 0 _ rfl, hc 1 _ rfl, hc 2 _ rfl, hc 3 _ rfl, hc 4 _ rfl, hc 5 _ rfl, hc 6 _ rfl, hc 7 _ rfl, hc 8 _ rfl, rdPairs_none w, rdPairs_one h0 e0⟩
  · exact ⟨_, _, ⟨e 1 (by decide) (by decide), e 0 (by decide) (by decide), e 2 (by decide) (by decide), e 3 (by decide) (by decide), e 2 (by decide) (by decide), e 4 (by decide) (by decide)⟩, hc 9 _ rfl, hc 10 _ rfl, hc 11 _ rfl, hc 12 _ rfl, hc 13 _ rfl, hc 14 _ rfl, hc 15 _ rfl, hc 16 _ rfl, hc 17 _ rfl, rdPairs_one h1 (e 1 (by decide) (by decide)), rdPairs_one h2 e0⟩
  · exact ⟨_, _, ⟨e 2 (by decide) (by decide), e 0 (by decide) (by decide), e 4 (by decide) (by decide), e 5 (by decide) (by decide), e 0 (by decide) (by decide), e 3 (by decide) (by decide)⟩, hc 18 _ rfl, hc 19 _ rfl, hc 20 _ rfl, hc 21 _ rfl, hc 22 _ rfl, hc 23 _ rfl, hc 24 _ rfl, hc 25 _ rfl, hc 26 _ rfl, rdPairs_none w, rdPairs_one h3 (e 1 (by decide) (by decide))⟩
  · exact ⟨_, _, ⟨e 0 (by decide) (by decide), e 0 (by decide) (by decide), e 6 (by decide) (by decide), e 7 (by decide) (by decide), e 0 (by decide) (by decide), e 0 (by decide) (by decide)⟩, hc 27 _ rfl, hc 28 _ rfl, hc 29 _ rfl, hc 30 _ rfl, hc 31 _ rfl, hc 32 _ rfl, hc 33 _ rfl, hc 34 _ rfl, hc 35 _ rfl, rdPairs_none w, rdPairs_none w⟩
  · exact ⟨_, _, ⟨e 0 (by decide) (by decide), e 1 (by decide) (by decide), e 8 (by decide) (by decide), e 9 (by decide) (by decide), e 0 (by decide) (by decide), e 0 (by decide) (by decide)⟩, hc 36 _ rfl, hc 37 _ rfl, hc 38 _ rfl, hc 39 _ rfl, hc 40 _ rfl, hc 41 _ rfl, hc 42 _ rfl, hc 43 _ rfl, hc 44 _ rfl, rdPairs_none w, rdPairs_none w⟩
  · simp [namB] at hk; omega
theorem evN_n : (byF evN [] evN.length).length = 0 := by decide +kernel
theorem ev_get {l : List Ev} {n : Nat} (hn : l.length = n) (k : Nat) (hk : k < n) : l[k]'(by omega) = l.getD k ⟨0, 0, 0, 0, 0, 0, 0⟩ := by
  rw [List.getD_eq_getElem?_getD, List.getElem?_eq_getElem (by omega)]; rfl
theorem ev_own {W : World} {base n : Nat} {v : Value} {l : List Ev} (h : W.ownsRow base 32 7 v n (l.flatMap evL)) (hn : l.length = n) (k : Nat) (hk : k < n) (j : Nat) (u : Value) (hu : (evL (l[k]'(by omega)))[j]? = some u) : ∃ g c, v = .slice (some ⟨g, 0, none⟩) n c ∧ base ≤ g ∧ W.cell? ⟨g, k * 7 + j, none⟩ = some u := by
  obtain ⟨g, cap, cur, rfl, hb, hg, hc⟩ := row_blk h (by omega)
  refine ⟨g, cap, rfl, hb, hg.cell _ ?_⟩
  have hj : j < 7 := by
    have := (List.getElem?_eq_some_iff.1 hu).1
    simpa [evL] using this
  rw [hc _ (by omega)]
  exact flat_at l k (by omega) j u hu
theorem evs_set {w : World} {b o : Nat} {l : List Ev} (h : EvsAt w (some ⟨b, o, none⟩) l) (p : Addr) (v : Value) (hne : b ≠ p.block) : EvsAt (w.setCell p v) (some ⟨b, o, none⟩) l :=
  ⟨h.1, fun hn => by
    obtain ⟨b', o', h1, h2⟩ := h.2 hn
    cases h1
    exact ⟨b, o, rfl, fun k hk j u hu => cell_set (h2 k hk j u hu) p v hne⟩⟩
theorem evs_tail {w : World} {b : Nat} (h : EvsAt w (some ⟨b, 0, none⟩) evN) : EvsAt w (some ⟨b, 7, none⟩) evN.tail :=
  ⟨fun e he => h.1 e (List.mem_of_mem_tail he), fun _ => by
    obtain ⟨b', o, h1, h2⟩ := h.2 (by simp [evN])
    cases h1
    exact ⟨b, 7, rfl, fun k hk j v hv => by
      have hk' : k + 1 < evN.length := by rw [List.length_tail] at hk; omega
      have := h2 (k + 1) hk' j v (by rw [← hv, List.getElem_tail])
      rw [show 7 + k * 7 + j = 0 + (k + 1) * 7 + j by omega]; exact this⟩⟩
theorem namB_set {w : World} {b c : Nat} (h : Blk w c (namAC b) 27) : Blk (w.setCell ⟨c, 3, none⟩ (.int .i64 (-1))) c (namBC b) 27 := by
  have := h.set 3 (.int .i64 (-1))
  simpa [namAC, namBC] using this
set_option maxRecDepth 100000 in
set_option maxHeartbeats 40000000 in
theorem sliceNames_any (w : World) (hK : KindsAt w) (hT : TabOk w) : Calls Tryd.prog 3 #[] w fun e w' => e = .returned (.bool true) ∧ Below w.heap.size w w' := by
  have HW := hid works_any
  have HT3 := hid three_own
  have HBY := hid (fun (W : World) (hW : Below w.heap.size w W) (b : Nat) (F : List Int) (vv : Value) (hE : EvsAt W (some ⟨b, 0, none⟩) evN) (hF : F.length ≤ 50) (hV : RdI W F vv) => by_any 3 2 2 (some ⟨b, 0, none⟩) evN 18 F vv W (by decide) hF hV hE (hK.below hW) (hT.below hW))
  unfold ByP at HBY
  dsimp only [trA] at HBY
  have HA0 := hid (kept_row namA_0 (by decide +kernel) (by decide))
  have HA100 := hid (kept_row namA_100 (by decide +kernel) (by decide))
  have HA1 := hid (kept_row namA_1 (by decide +kernel) (by decide))
  have HN1 := hid (numbers_yes [1] (by decide))
  have HN12 := hid (numbers_yes [1, 2] (by decide))
  have HN2 := hid (numbers_yes [2] (by decide))
  have HBn := hid (kept_row namB_n (by decide +kernel) (by decide))
  have HB1k := hid (kept_row namB_1 (by decide +kernel) (by decide))
  have HN03 := hid (numbers_yes [0, 3] (by decide))
  have HN023 := hid (numbers_yes [0, 2, 3] (by decide))
  have HEV := hid ev_any
  dsimp only [List.length_cons, List.length_nil, Nat.reduceAdd] at HA0 HA100 HA1 HBn HB1k
  have e0 : B64 0 := by unfold B64; omega
  have e1 : B64 1 := by unfold B64; omega
  have E0 := hid e0
  have E1 := hid e1
  have E2 : Hid (B64 2) := hid (by unfold B64; omega)
  have EM : Hid (B64 (-1)) := hid (by unfold B64; omega)
  clear e0 e1
  go_enter Tryd.func3, Tryd.ntmps3
  go_wp2_with fail
  refine (HW.out _).mono ?_
  rintro e' w1 ⟨rfl, hb1⟩
  have HB1 := hid hb1
  clear hb1
  go_wp2_with fail
  refine (HT3.out _).mono ?_
  rintro e' w2 ⟨rfl, p0, p1, p2, p3, pc, hb2⟩
  have c23 := pc.cell 23 (v := .int .i64 1) rfl
  have c14 := pc.cell 14 (v := .int .i64 3) rfl
  have f0 := pc.free 0
  have f14 := pc.free 14
  have f23 := pc.free 23
  have c14' := (pc.set 23 (.int .i64 3)).cell 14 (v := .int .i64 3) rfl
  have f14' := (pc.set 23 (.int .i64 3)).free 14
  have hlc := pc.lt
  have HPC := hid pc
  have HP0 := hid p0
  have HP1 := hid p1
  have HP2 := hid p2
  have HP3 := hid p3
  have HB2 := hid hb2
  have HSZ := hid hb2.size
  clear pc p0 p1 p2 p3 hb2
  go_wp2_with fail
  have hne : ∀ i, i < 4 → w1.heap.size + i ≠ w1.heap.size + 4 := fun i hi => by omega
  have HPC3 := hid (namA_set HPC.out)
  have HP03 := hid ((HP0.out.set_other ⟨w1.heap.size + 4, 23, none⟩ (.int .i64 3) (hne 0 (by omega))).set_other ⟨w1.heap.size + 4, 14, none⟩ (.int .i64 4) (hne 0 (by omega)))
  have HP13 := hid ((HP1.out.set_other ⟨w1.heap.size + 4, 23, none⟩ (.int .i64 3) (hne 1 (by omega))).set_other ⟨w1.heap.size + 4, 14, none⟩ (.int .i64 4) (hne 1 (by omega)))
  have HP23 := hid ((HP2.out.set_other ⟨w1.heap.size + 4, 23, none⟩ (.int .i64 3) (hne 2 (by omega))).set_other ⟨w1.heap.size + 4, 14, none⟩ (.int .i64 4) (hne 2 (by omega)))
  have HP33 := hid ((HP3.out.set_other ⟨w1.heap.size + 4, 23, none⟩ (.int .i64 3) (hne 3 (by omega))).set_other ⟨w1.heap.size + 4, 14, none⟩ (.int .i64 4) (hne 3 (by omega)))
  have HB3 : Hid (Below w.heap.size w ((w2.setCell ⟨w1.heap.size + 4, 23, none⟩ (.int .i64 3)).setCell ⟨w1.heap.size + 4, 14, none⟩ (.int .i64 4))) := hid (((ext_trans HB1.out HB2.out).setCell (p := ⟨w1.heap.size + 4, 23, none⟩) (by have := HB1.out.size; simp; omega) _).setCell (p := ⟨w1.heap.size + 4, 14, none⟩) (by have := HB1.out.size; simp; omega) _)
  have hsz3 : ((w2.setCell ⟨w1.heap.size + 4, 23, none⟩ (.int .i64 3)).setCell ⟨w1.heap.size + 4, 14, none⟩ (.int .i64 4)).heap.size = w2.heap.size := by simp
  obtain ⟨W3, hW3⟩ : ∃ W3, W3 = (w2.setCell ⟨w1.heap.size + 4, 23, none⟩ (.int .i64 3)).setCell ⟨w1.heap.size + 4, 14, none⟩ (.int .i64 4) := ⟨_, rfl⟩
  rw [← hW3] at HPC3 HP03 HP13 HP23 HP33 HB3 hsz3 ⊢
  rw [← hsz3]
  clear hW3 hsz3 c23 c14 c14' f0 f14 f23 f14' hlc HPC HP0 HP1 HP2 HP3
  have HRA := hid (rdNamA HP03.out HP13.out HP23.out HP33.out HPC3.out)
  refine (HA0.out _ _ _ (HRA.out.below (ext_alloc (ext_refl _) _)) (rdI_one (Blk.new _ _ _) E0.out)).mono ?_
  rintro e' w4 ⟨a4, c4, rfl, hr4, hb4⟩
  have HR4 := hid (hr4.below (ext_alloc (ext_refl _) (.cells #[.int .i64 1] 3)))
  have HX4 := hid (ext_alloc (ext_trans (ext_alloc (ext_refl W3) (.cells #[.int .i64 0] 3)) hb4) (.cells #[.int .i64 1] 3))
  clear hr4 hb4
  go_wp2_with fail
  refine (HN1.out _ _ _ HR4.out (rdN_1 (p := 1) (Blk.new _ _ _))).mono ?_
  rintro e' w5 ⟨rfl, hb5⟩
  have HX5 := hid (ext_trans HX4.out hb5)
  clear hb5 HX4
  go_wp2_with fail
  refine (HA100.out _ _ _ (HRA.out.below (ext_alloc HX5.out _)) (rdI_3 (Blk.new _ _ _) ⟨E1.out, E0.out, E0.out⟩)).mono ?_
  rintro e' w6 ⟨a6, c6, rfl, hr6, hb6⟩
  have HR6 := hid (hr6.below (ext_alloc (ext_refl _) (.cells #[.int .i64 1, .int .i64 2] 3)))
  have HX6 := hid (ext_alloc (ext_trans (ext_alloc HX5.out (.cells #[.int .i64 1, .int .i64 0, .int .i64 0] 3)) hb6) (.cells #[.int .i64 1, .int .i64 2] 3))
  clear hr6 hb6 HX5
  go_wp2_with fail
  refine (HN12.out _ _ _ HR6.out (rdN_2 (p := 1) (q := 2) (Blk.new _ _ _))).mono ?_
  rintro e' w7 ⟨rfl, hb7⟩
  have HX7 := hid (ext_trans HX6.out hb7)
  clear hb7 HX6
  go_wp2_with fail
  refine (HA1.out _ _ _ (HRA.out.below (ext_alloc HX7.out _)) (rdI_one (Blk.new _ _ _) E1.out)).mono ?_
  rintro e' w8 ⟨a8, c8, rfl, hr8, hb8⟩
  have HR8 := hid (hr8.below (ext_alloc (ext_refl _) (.cells #[.int .i64 2] 3)))
  have HX8 := hid (ext_alloc (ext_trans (ext_alloc HX7.out (.cells #[.int .i64 1] 3)) hb8) (.cells #[.int .i64 2] 3))
  clear hr8 hb8 HX7
  go_wp2_with fail
  refine (HN2.out _ _ _ HR8.out (rdN_1 (p := 2) (Blk.new _ _ _))).mono ?_
  rintro e' w9 ⟨rfl, hb9⟩
  have HX9 := hid (ext_trans HX8.out hb9)
  clear hb9 HX8
  have hpc := HPC3.out.below HX9.out
  have c3 := hpc.cell 3 (v := .int .i64 1) rfl
  have f3 := hpc.free 3
  have hlc := hpc.lt
  have HBB := hid (namB_set hpc)
  obtain ⟨ti, hti, hz0, hz1, hz2⟩ := info_parts infoAttN
  have hbn := (HBB.out.alloc (.cells newC.toArray 27))
  have HOWN := hid (own_of_blk (n := 3) (size := 9) (base := w1.heap.size) hbn rfl (by omega) (by decide))
  have HCW := hid (blk_at' (cs := newC) (Blk.new (w9.setCell ⟨w1.heap.size + 4, 3, none⟩ (.int .i64 (-1))) newC.toArray 27))
  have HSZX : Hid (w1.heap.size ≤ ((w9.setCell ⟨w1.heap.size + 4, 3, none⟩ (.int .i64 (-1))).alloc (.cells newC.toArray 27)).heap.size) := hid (by simp; omega)
  clear hpc hbn
  dsimp only [newC] at HOWN HCW HSZX
  simp only [World.size_setCell] at HCW
  go_wp2_with (at_builtin; go_must (refine wpList_append_own_at _ rfl (.tmp 55) (.tmp 58) 23 rfl w1.heap.size 27 ti _ 9 104 Tryd.underlying23 hti hz0 hz1 hz2 rfl (by decide) (.slice (some ⟨w1.heap.size + 4, 0, none⟩) 3 3) 3 (namBC w1.heap.size).toList rfl HOWN.out ⟨w9.heap.size, 0, none⟩ 2 2 newC rfl rfl HCW.out (by simp [newC, Value.oneCell']) (by decide) (by decide) HSZX.out ?_); intro v' w10 hown hgr _hn hd; obtain ⟨g, cg, cur, rfl, hgb, hbg, hcur⟩ := row_blk hown (by decide); have y1 := hbg.cell 1 (v := .int .i64 0) ((hcur 1 (by decide)).trans rfl); have z1 := hbg.free 1; have hgl := hbg.lt)
  have hcells : ∀ (k : Nat) (u : Value), (namBX w1.heap.size)[k]? = some u → (w10.setCell ⟨g, 1, none⟩ (.int .i64 1)).cell? ⟨g, k, none⟩ = some u := fun k u hu => by
    have hk : k < 45 := (List.getElem?_eq_some_iff.1 hu).1
    refine (hbg.set 1 (.int .i64 1)).cell k ?_
    rw [← namBX_is, List.getElem?_set] at hu
    rw [Array.getElem?_setIfInBounds]
    have hcl : 1 < cur.size := by
      have := hcur 1 (by decide)
      rcases Nat.lt_or_ge 1 cur.size with h | h
      · exact h
      · rw [Array.getElem?_eq_none h] at this; cases this
    by_cases h1 : 1 = k
    · subst h1
      rw [if_pos rfl, if_pos hcl]
      rw [if_pos rfl, if_pos (by simp [namBC, newC])] at hu
      exact hu
    · rw [if_neg h1] at hu ⊢
      rw [hcur k (by omega)]; exact hu
  have HCE := hid hcells
  have hp : ∀ {i : Nat} {C : Array Value}, i < 4 → Blk W3 (w1.heap.size + i) C 67 → Blk (w10.setCell ⟨g, 1, none⟩ (.int .i64 1)) (w1.heap.size + i) C 67 := fun {i C} hi h => by
    have h1 := ((h.below HX9.out).set_other ⟨w1.heap.size + 4, 3, none⟩ (.int .i64 (-1)) (hne i hi)).alloc (.cells newC.toArray 27)
    have h2 := h1.grown hgr (blk_ne HOWN.out h1 (by decide))
    refine h2.set_other ⟨g, 1, none⟩ (.int .i64 1) (fun e => ?_)
    have := blk_ne hown h2 (by decide)
    exact this (by rw [e]; rfl)
  have HRB := hid (rdNamB (hp (i := 0) (by omega) HP03.out) (hp (i := 1) (by omega) HP13.out) (hp (i := 2) (by omega) HP23.out) (hp (i := 3) (by omega) HP33.out) (cap := cg) hcells)
  have hsz11 : Below w.heap.size w (w10.setCell ⟨g, 1, none⟩ (.int .i64 1)) := by
    have h1 := ext_trans HB3.out HX9.out
    have h2 := (h1.setCell (p := ⟨w1.heap.size + 4, 3, none⟩) (by have := HB1.out.size; simp; omega) (.int .i64 (-1)))
    have h3 := ext_alloc h2 (.cells newC.toArray 27)
    have h4 := h3.grown hgr h3.size (fun k hk => by have := (HOWN.out.lt k hk).1; have := HB1.out.size; omega)
    exact h4.setCell (p := ⟨g, 1, none⟩) (by have := HB1.out.size; simp; omega) _
  have HB11 := hid hsz11
  obtain ⟨W11, hW11⟩ : ∃ W11, W11 = w10.setCell ⟨g, 1, none⟩ (.int .i64 1) := ⟨_, rfl⟩
  rw [← hW11] at HRB HB11 ⊢
  clear hW11 hsz11 hp hown hgr hbg hcur hcells HCE HOWN HCW HSZX HBB HX9 HP03 HP13 HP23 HP33 HPC3 HB3 HRA c3 f3 y1 z1 hd
  refine (HBn.out _ _ _ HRB.out (rdI_none _)).mono ?_
  rintro e' w12 ⟨a12, c12, rfl, hr12, hb12⟩
  have HR12 := hid (hr12.below (ext_alloc (ext_refl _) (.cells #[.int .i64 0, .int .i64 3] 3)))
  have HX12 := hid (ext_alloc (ext_trans (ext_refl W11) hb12) (.cells #[.int .i64 0, .int .i64 3] 3))
  clear hr12 hb12
  go_wp2_with fail
  refine (HN03.out _ _ _ HR12.out (rdN_2 (p := 0) (q := 3) (Blk.new _ _ _))).mono ?_
  rintro e' w13 ⟨rfl, hb13⟩
  have HX13 := hid (ext_trans HX12.out hb13)
  clear hb13 HX12
  go_wp2_with fail
  refine (HB1k.out _ _ _ (HRB.out.below (ext_alloc HX13.out _)) (rdI_one (Blk.new _ _ _) E1.out)).mono ?_
  rintro e' w14 ⟨a14, c14, rfl, hr14, hb14⟩
  have HR14 := hid (hr14.below (ext_alloc (ext_refl _) (.cells #[.int .i64 0, .int .i64 2, .int .i64 3] 3)))
  have HX14 := hid (ext_alloc (ext_trans (ext_alloc HX13.out (.cells #[.int .i64 1] 3)) hb14) (.cells #[.int .i64 0, .int .i64 2, .int .i64 3] 3))
  clear hr14 hb14 HX13
  go_wp2_with fail
  refine (HN023.out _ _ _ HR14.out (rdN_3 (p := 0) (q := 2) (r := 3) (Blk.new _ _ _))).mono ?_
  rintro e' w15 ⟨rfl, hb15⟩
  have HY0 := hid (ext_trans HB11.out (ext_trans HX14.out hb15))
  clear hb15 HX14
  go_wp2_with fail
  refine (HEV.out 0 1 0 0 _).mono ?_
  rintro e' u0 ⟨rfl, hb⟩
  have HY1 := hid (ext_trans HY0.out hb)
  clear hb HY0
  go_wp2_with fail
  refine (HEV.out 1 1 0 0 _).mono ?_
  rintro e' u1 ⟨rfl, hb⟩
  have HY2 := hid (ext_trans HY1.out hb)
  clear hb HY1
  go_wp2_with fail
  refine (HEV.out 0 4 0 0 _).mono ?_
  rintro e' u2 ⟨rfl, hb⟩
  have HY3 := hid (ext_trans HY2.out hb)
  clear hb HY2
  go_wp2_with fail
  refine (HEV.out 1 2 1 0 _).mono ?_
  rintro e' u3 ⟨rfl, hb⟩
  have HY4 := hid (ext_trans HY3.out hb)
  clear hb HY3
  go_wp2_with fail
  refine (HEV.out 0 5 0 1 _).mono ?_
  rintro e' u4 ⟨rfl, hb⟩
  have HY5 := hid (ext_trans HY4.out hb)
  clear hb HY4
  go_wp2_with fail
  refine (HEV.out 1 3 1 0 _).mono ?_
  rintro e' u5 ⟨rfl, hb⟩
  have HY6 := hid (ext_trans HY5.out hb)
  clear hb HY5
  go_wp2_with fail
  refine (HEV.out 0 7 0 1 _).mono ?_
  rintro e' u6 ⟨rfl, hb⟩
  have HY7 := hid (ext_trans HY6.out hb)
  clear hb HY6
  go_wp2_with fail
  refine (HEV.out 0 8 0 0 _).mono ?_
  rintro e' u7 ⟨rfl, hb⟩
  have HY8 := hid (ext_trans HY7.out hb)
  clear hb HY7
  go_wp2_with fail
  refine (HEV.out 1 7 0 0 _).mono ?_
  rintro e' u8 ⟨rfl, hb⟩
  have HY9 := hid (ext_trans HY8.out hb)
  clear hb HY8
  go_wp2_with fail
  refine (HEV.out 0 9 0 0 _).mono ?_
  rintro e' u9 ⟨rfl, hb⟩
  have HY10 := hid (ext_trans HY9.out hb)
  clear hb HY9
  go_wp2_with fail
  refine (HEV.out 2 1 0 1 _).mono ?_
  rintro e' u10 ⟨rfl, hb⟩
  have HY11 := hid (ext_trans HY10.out hb)
  clear hb HY10
  go_wp2_with fail
  refine (HEV.out 2 2 0 1 _).mono ?_
  rintro e' u11 ⟨rfl, hb⟩
  have HY12 := hid (ext_trans HY11.out hb)
  clear hb HY11
  go_wp2_with fail
  refine (HEV.out 2 3 0 0 _).mono ?_
  rintro e' u12 ⟨rfl, hb⟩
  have HY13 := hid (ext_trans HY12.out hb)
  clear hb HY12
  go_wp2_with fail
  refine (HEV.out 2 4 1 0 _).mono ?_
  rintro e' u13 ⟨rfl, hb⟩
  have HY14 := hid (ext_trans HY13.out hb)
  clear hb HY13
  go_wp2_with fail
  refine (HEV.out 2 5 0 2 _).mono ?_
  rintro e' u14 ⟨rfl, hb⟩
  have HY15 := hid (ext_trans HY14.out hb)
  clear hb HY14
  go_wp2_with fail
  refine (HEV.out 2 7 0 2 _).mono ?_
  rintro e' u15 ⟨rfl, hb⟩
  have HY16 := hid (ext_trans HY15.out hb)
  clear hb HY15
  go_wp2_with fail
  refine (HEV.out 2 8 1 0 _).mono ?_
  rintro e' u16 ⟨rfl, hb⟩
  have HY17 := hid (ext_trans HY16.out hb)
  clear hb HY16
  go_wp2_with fail
  refine (HEV.out 2 9 1 0 _).mono ?_
  rintro e' u17 ⟨rfl, hb⟩
  have HY18 := hid (ext_trans HY17.out hb)
  clear hb HY17
  go_wp2_with fail
  have HE18 := hid (evN_at (Blk.new u17 (evN.flatMap evL).toArray 32))
  refine (HBY.out _ (ext_alloc (ext_alloc (ext_alloc HY18.out _) _) _) u17.heap.size [0] _ (EvsAt.below (ext_alloc (ext_alloc (ext_refl _) _) _) HE18.out) (by decide) (rdI_one (Blk.new' _ _ _ (by simp)) E0.out)).mono ?_
  rintro e' w16 ⟨T1, V1, S1, v1, rfl, hb16, ho16, hs16⟩
  rw [code_n [0] (by decide)] at hs16 ⊢
  rw [evs_n [0] (by decide) evN_k0, evN_0.1] at ho16
  obtain ⟨rfl, rfl, rfl⟩ := hs16 (by first | rfl | trivial)
  obtain ⟨ga, xc, rfl, hga, ca16⟩ := ev_own ho16 evN_0.1 5 (by decide) 0 (.int .u8 9) (by rw [ev_get evN_0.1 5 (by decide)]; show some (Value.int .u8 _) = _; rw [evN_0.2])
  have HCA := hid ca16
  have HGA := hid hga
  clear hga
  clear ca16
  have hT1 := ((Blk.new' (u17.alloc (.cells (evN.flatMap evL).toArray 32)) #[.int .i64 3, .int .i64 2, .int .i64 2, .slice (some ⟨u17.heap.size, 0, none⟩) 18 18] 36 (World.size_alloc _ _).symm).alloc (.cells #[.int .i64 0] 3)).below hb16
  have hT2 := hT1.alloc (.cells #[.int .i64 3, .int .i64 2, .int .i64 2, .slice (some ⟨ga, 0, none⟩) 6 xc] 36)
  have HTB := hid hT2
  have d0 := hT2.cell 0 (v := .int .i64 3) rfl
  have d1 := hT2.cell 1 (v := .int .i64 2) rfl
  have d2 := hT2.cell 2 (v := .int .i64 2) rfl
  have d3 := hT2.cell 3 (v := .slice (some ⟨u17.heap.size, 0, none⟩) 18 18) rfl
  clear hT1 hT2
  go_wp2_with fail
  have HEV16 := hid (((HE18.out.below (ext_alloc (ext_alloc (ext_refl _) (.cells #[.int .i64 3, .int .i64 2, .int .i64 2, .slice (some ⟨u17.heap.size, 0, none⟩) 18 18] 36)) (.cells #[.int .i64 0] 3))).below hb16))
  have HY19 := hid (ext_trans (ext_alloc (ext_alloc (ext_alloc HY18.out (.cells (evN.flatMap evL).toArray 32)) (.cells #[.int .i64 3, .int .i64 2, .int .i64 2, .slice (some ⟨u17.heap.size, 0, none⟩) 18 18] 36)) (.cells #[.int .i64 0] 3)) hb16)
  refine (HBY.out _ (ext_alloc (ext_alloc HY19.out _) _) u17.heap.size [1] _ (EvsAt.below (ext_alloc (ext_alloc (ext_refl _) _) _) HEV16.out) (by decide) (rdI_one (Blk.new' _ _ _ (by simp)) E1.out)).mono ?_
  rintro e' w17 ⟨T17, V17, S17, v17, rfl, hb17, ho17, hs17⟩
  rw [code_n [1] (by decide)] at hs17 ⊢
  rw [evs_n [1] (by decide) evN_k1, evN_1.1] at ho17
  obtain ⟨rfl, rfl, rfl⟩ := hs17 (by first | rfl | trivial)
  obtain ⟨gb, xbc, rfl, hgb, cb17⟩ := ev_own ho17 evN_1.1 6 (by decide) 1 (.int .i64 2) (by rw [ev_get evN_1.1 6 (by decide)]; show some (Value.int .i64 _) = _; rw [evN_1.2])
  have HCB := hid cb17
  have HGB := hid hgb
  clear hgb
  clear cb17
  have hT3 := ((HTB.out.alloc (.cells #[.int .i64 1] 3)).below hb17).alloc (.cells #[.int .i64 3, .int .i64 2, .int .i64 2, .slice (some ⟨gb, 0, none⟩) 14 xbc] 36)
  have HTC := hid hT3
  have d0 := hT3.cell 0 (v := .int .i64 3) rfl
  have d1 := hT3.cell 1 (v := .int .i64 2) rfl
  have d2 := hT3.cell 2 (v := .int .i64 2) rfl
  have d3 := hT3.cell 3 (v := .slice (some ⟨u17.heap.size, 0, none⟩) 18 18) rfl
  clear hT3
  go_wp2_with fail
  have HEV17 := hid ((HEV16.out.below (ext_alloc (ext_alloc (ext_refl _) (.cells #[.int .i64 3, .int .i64 2, .int .i64 2, .slice (some ⟨ga, 0, none⟩) 6 xc] 36)) (.cells #[.int .i64 1] 3))).below hb17)
  have HY20 := hid (ext_trans (ext_alloc (ext_alloc HY19.out (.cells #[.int .i64 3, .int .i64 2, .int .i64 2, .slice (some ⟨ga, 0, none⟩) 6 xc] 36)) (.cells #[.int .i64 1] 3)) hb17)
  refine (HBY.out _ (ext_alloc HY20.out _) u17.heap.size [] _ (EvsAt.below (ext_alloc (ext_refl _) _) HEV17.out) (by decide) (rdI_none _)).mono ?_
  rintro e' w18 ⟨T18, V18, S18, v18, rfl, hb18, ho18, hs18⟩
  rw [code_n [] (by decide)] at hs18 ⊢
  rw [evs_n [] (by decide) evN_kn, evN_n] at ho18
  obtain ⟨rfl, rfl, rfl⟩ := hs18 (by first | rfl | trivial)
  obtain ⟨xca, xcc, rfl⟩ := own_sl' ho18
  have hT4 := (HTC.out.below hb18).alloc (.cells #[.int .i64 3, .int .i64 2, .int .i64 2, .slice xca 0 xcc] 36)
  have HTD := hid hT4
  have d0 := hT4.cell 0 (v := .int .i64 3) rfl
  have d1 := hT4.cell 1 (v := .int .i64 2) rfl
  have d2 := hT4.cell 2 (v := .int .i64 2) rfl
  have d3 := hT4.cell 3 (v := .slice (some ⟨u17.heap.size, 0, none⟩) 18 18) rfl
  clear hT4
  go_wp2_with fail
  have HEV18 := hid ((HEV17.out.below (ext_alloc (ext_refl _) (.cells #[.int .i64 3, .int .i64 2, .int .i64 2, .slice (some ⟨gb, 0, none⟩) 14 xbc] 36))).below hb18)
  have HY21 := hid (ext_trans (ext_alloc HY20.out (.cells #[.int .i64 3, .int .i64 2, .int .i64 2, .slice (some ⟨gb, 0, none⟩) 14 xbc] 36)) hb18)
  refine (HBY.out _ (ext_alloc (ext_alloc HY21.out _) _) u17.heap.size [2] _ (EvsAt.below (ext_alloc (ext_alloc (ext_refl _) _) _) HEV18.out) (by decide) (rdI_one (Blk.new' _ _ _ (by simp)) E2.out)).mono ?_
  rintro e' w19 ⟨T19, V19, S19, v19, rfl, hb19, ho19, -⟩
  obtain ⟨ya, yc, rfl⟩ := own_sl' ho19
  clear ho19
  rw [code_a [2] (by decide)]
  have hT5 := ((HTD.out.alloc (.cells #[.int .i64 2] 3)).below hb19).alloc (.cells #[.int .i64 T19, .int .i64 V19, .int .i64 S19, .slice ya (byEvs 3 2 2 evN [2]).length yc] 36)
  have HTE := hid hT5
  have d0 := hT5.cell 0 (v := .int .i64 3) rfl
  have d1 := hT5.cell 1 (v := .int .i64 2) rfl
  have d2 := hT5.cell 2 (v := .int .i64 2) rfl
  have d3 := hT5.cell 3 (v := .slice (some ⟨u17.heap.size, 0, none⟩) 18 18) rfl
  clear hT5
  go_wp2_with fail
  have HEV19 := hid ((HEV18.out.below (ext_alloc (ext_alloc (ext_refl _) (.cells #[.int .i64 3, .int .i64 2, .int .i64 2, .slice xca 0 xcc] 36)) (.cells #[.int .i64 2] 3))).below hb19)
  have HY22 := hid (ext_trans (ext_alloc (ext_alloc HY21.out (.cells #[.int .i64 3, .int .i64 2, .int .i64 2, .slice xca 0 xcc] 36)) (.cells #[.int .i64 2] 3)) hb19)
  refine (HBY.out _ (ext_alloc (ext_alloc HY22.out _) _) u17.heap.size [-1] _ (EvsAt.below (ext_alloc (ext_alloc (ext_refl _) _) _) HEV19.out) (by decide) (rdI_one (b := w19.heap.size + 1) (Blk.new' (w19.alloc (.cells #[.int .i64 T19, .int .i64 V19, .int .i64 S19, .slice ya (byEvs 3 2 2 evN [2]).length yc] 36)) #[.int .i64 (-1)] 3 (by simp)) EM.out)).mono ?_
  rintro e' w20 ⟨T20, V20, S20, v20, rfl, hb20, ho20, -⟩
  obtain ⟨za, zc, rfl⟩ := own_sl' ho20
  clear ho20
  rw [code_a [-1] (by decide)]
  have hT6 := ((HTE.out.alloc (.cells #[.int .i64 (-1)] 3)).below hb20).alloc (.cells #[.int .i64 T20, .int .i64 V20, .int .i64 S20, .slice za (byEvs 3 2 2 evN [-1]).length zc] 36)
  have HTF := hid hT6
  have d0 := hT6.cell 0 (v := .int .i64 3) rfl
  have d1 := hT6.cell 1 (v := .int .i64 2) rfl
  have d2 := hT6.cell 2 (v := .int .i64 2) rfl
  have d3 := hT6.cell 3 (v := .slice (some ⟨u17.heap.size, 0, none⟩) 18 18) rfl
  have f3 := hT6.free 3
  clear hT6
  go_wp2_with fail
  have HEV20 := hid ((HEV19.out.below (ext_alloc (ext_alloc (ext_refl _) (.cells #[.int .i64 T19, .int .i64 V19, .int .i64 S19, .slice ya (byEvs 3 2 2 evN [2]).length yc] 36)) (.cells #[.int .i64 (-1)] 3))).below hb20)
  have HY23 := hid (ext_trans (ext_alloc (ext_alloc HY22.out (.cells #[.int .i64 T19, .int .i64 V19, .int .i64 S19, .slice ya (byEvs 3 2 2 evN [2]).length yc] 36)) (.cells #[.int .i64 (-1)] 3)) hb20)
  have hu16 : u17.heap.size + 3 ≤ w16.heap.size := by have := hb16.size; simp only [World.size_alloc] at this; omega
  have hu17 : w16.heap.size + 2 ≤ w17.heap.size := by have := hb17.size; simp only [World.size_alloc] at this; omega
  have hu18 : w17.heap.size + 1 ≤ w18.heap.size := by have := hb18.size; simp only [World.size_alloc] at this; omega
  have hga : u17.heap.size + 3 ≤ ga := by have := HGA.out; simp only [World.size_alloc] at this; omega
  have hgb : w16.heap.size + 2 ≤ gb := by have := HGB.out; simp only [World.size_alloc] at this; omega
  have Z18 := ext_trans (ext_alloc (ext_refl w17) (.cells #[.int .i64 3, .int .i64 2, .int .i64 2, .slice (some ⟨gb, 0, none⟩) 14 xbc] 36)) hb18
  have Z19 := ext_trans (ext_alloc (ext_alloc (ext_refl w18) (.cells #[.int .i64 3, .int .i64 2, .int .i64 2, .slice xca 0 xcc] 36)) (.cells #[.int .i64 2] 3)) hb19
  have Z20 := ext_alloc (ext_trans (ext_alloc (ext_alloc (ext_refl w19) (.cells #[.int .i64 T19, .int .i64 V19, .int .i64 S19, .slice ya (byEvs 3 2 2 evN [2]).length yc] 36)) (.cells #[.int .i64 (-1)] 3)) hb20) (.cells #[.int .i64 T20, .int .i64 V20, .int .i64 S20, .slice za (byEvs 3 2 2 evN [-1]).length zc] 36)
  have Y18 := ext_trans (ext_alloc (ext_refl (w18.alloc (.cells #[.int .i64 3, .int .i64 2, .int .i64 2, .slice xca 0 xcc] 36))) (.cells #[.int .i64 2] 3)) hb19
  have Y17 := ext_trans (ext_refl (w17.alloc (.cells #[.int .i64 3, .int .i64 2, .int .i64 2, .slice (some ⟨gb, 0, none⟩) 14 xbc] 36))) hb18
  have Y16 := ext_trans (ext_alloc (ext_refl (w16.alloc (.cells #[.int .i64 3, .int .i64 2, .int .i64 2, .slice (some ⟨ga, 0, none⟩) 6 xc] 36))) (.cells #[.int .i64 1] 3)) hb17
  have k16 := later (ext_trans (ext_trans (ext_trans Y16 Z18) Z19) Z20) ((Blk.new w16 #[.int .i64 3, .int .i64 2, .int .i64 2, .slice (some ⟨ga, 0, none⟩) 6 xc] 36).cell 3 (v := .slice (some ⟨ga, 0, none⟩) 6 xc) rfl)
  have ka := later (ext_trans (ext_trans (ext_trans (ext_trans (ext_alloc (ext_refl w16) (.cells #[.int .i64 3, .int .i64 2, .int .i64 2, .slice (some ⟨ga, 0, none⟩) 6 xc] 36)) Y16) Z18) Z19) Z20) HCA.out
  have k17 := later (ext_trans (ext_trans Y17 Z19) Z20) ((Blk.new w17 #[.int .i64 3, .int .i64 2, .int .i64 2, .slice (some ⟨gb, 0, none⟩) 14 xbc] 36).cell 3 (v := .slice (some ⟨gb, 0, none⟩) 14 xbc) rfl)
  have kb := later (ext_trans (ext_trans Z18 Z19) Z20) HCB.out
  have k180 := later (ext_trans Y18 Z20) ((Blk.new w18 #[.int .i64 3, .int .i64 2, .int .i64 2, .slice xca 0 xcc] 36).cell 0 (v := .int .i64 3) rfl)
  have k181 := later (ext_trans Y18 Z20) ((Blk.new w18 #[.int .i64 3, .int .i64 2, .int .i64 2, .slice xca 0 xcc] 36).cell 1 (v := .int .i64 2) rfl)
  have k183 := later (ext_trans Y18 Z20) ((Blk.new w18 #[.int .i64 3, .int .i64 2, .int .i64 2, .slice xca 0 xcc] 36).cell 3 (v := .slice xca 0 xcc) rfl)
  have k16 := hid (cell_set k16 ⟨u17.heap.size + 1, 3, none⟩ (.slice (some ⟨u17.heap.size, 7, none⟩) 17 17) (by show _ ≠ u17.heap.size + 1; omega))
  have ka := hid (cell_set ka ⟨u17.heap.size + 1, 3, none⟩ (.slice (some ⟨u17.heap.size, 7, none⟩) 17 17) (by show _ ≠ u17.heap.size + 1; omega))
  have k17 := hid (cell_set k17 ⟨u17.heap.size + 1, 3, none⟩ (.slice (some ⟨u17.heap.size, 7, none⟩) 17 17) (by show _ ≠ u17.heap.size + 1; omega))
  have kb := hid (cell_set kb ⟨u17.heap.size + 1, 3, none⟩ (.slice (some ⟨u17.heap.size, 7, none⟩) 17 17) (by show _ ≠ u17.heap.size + 1; omega))
  have k180 := hid (cell_set k180 ⟨u17.heap.size + 1, 3, none⟩ (.slice (some ⟨u17.heap.size, 7, none⟩) 17 17) (by show _ ≠ u17.heap.size + 1; omega))
  have k181 := hid (cell_set k181 ⟨u17.heap.size + 1, 3, none⟩ (.slice (some ⟨u17.heap.size, 7, none⟩) 17 17) (by show _ ≠ u17.heap.size + 1; omega))
  have k183 := hid (cell_set k183 ⟨u17.heap.size + 1, 3, none⟩ (.slice (some ⟨u17.heap.size, 7, none⟩) 17 17) (by show _ ≠ u17.heap.size + 1; omega))
  have hu0 : w.heap.size ≤ u17.heap.size + 1 := by have := HY18.out.size; omega
  have HY24 : Hid (Below w.heap.size w ((w20.alloc (.cells #[.int .i64 T20, .int .i64 V20, .int .i64 S20, .slice za (byEvs 3 2 2 evN [-1]).length zc] 36)).setCell ⟨u17.heap.size + 1, 3, none⟩ (.slice (some ⟨u17.heap.size, 7, none⟩) 17 17))) := hid ((ext_alloc HY23.out _).setCell (p := ⟨u17.heap.size + 1, 3, none⟩) hu0 _)
  have HEV21 : Hid (EvsAt ((w20.alloc (.cells #[.int .i64 T20, .int .i64 V20, .int .i64 S20, .slice za (byEvs 3 2 2 evN [-1]).length zc] 36)).setCell ⟨u17.heap.size + 1, 3, none⟩ (.slice (some ⟨u17.heap.size, 7, none⟩) 17 17)) (some ⟨u17.heap.size, 7, none⟩) evN.tail) := hid (evs_set (evs_tail (EvsAt.below (ext_alloc (ext_refl _) _) HEV20.out)) _ _ (by show _ ≠ u17.heap.size + 1; omega))
  have hsz20 : ((w20.alloc (.cells #[.int .i64 T20, .int .i64 V20, .int .i64 S20, .slice za (byEvs 3 2 2 evN [-1]).length zc] 36)).setCell ⟨u17.heap.size + 1, 3, none⟩ (.slice (some ⟨u17.heap.size, 7, none⟩) 17 17)).heap.size = w20.heap.size + 1 := by simp
  obtain ⟨W20, hW20⟩ : ∃ W20, W20 = (w20.alloc (.cells #[.int .i64 T20, .int .i64 V20, .int .i64 S20, .slice za (byEvs 3 2 2 evN [-1]).length zc] 36)).setCell ⟨u17.heap.size + 1, 3, none⟩ (.slice (some ⟨u17.heap.size, 7, none⟩) 17 17) := ⟨_, rfl⟩
  rw [← hW20] at k16 ka k17 kb k180 k181 k183 HY24 HEV21 hsz20 ⊢
  rw [← hsz20]
  clear hW20 Z18 Z19 Z20 Y18 Y17 Y16 hu16 hu17 hu18 hga hgb
  have HBT := by_any 3 2 2 (some ⟨u17.heap.size, 7, none⟩) evN.tail 17 [0] (.slice (some ⟨W20.heap.size, 0, none⟩) 1 1) (W20.alloc (.cells #[.int .i64 0] 3)) (by decide) (by decide) (rdI_one (Blk.new _ _ _) E0.out) (EvsAt.below (ext_alloc (ext_refl _) _) HEV21.out) (hK.below (ext_alloc HY24.out _)) (hT.below (ext_alloc HY24.out _))
  unfold ByP at HBT
  dsimp only [trA] at HBT
  refine HBT.mono ?_
  rintro e' w21 ⟨T21, V21, S21, v21, rfl, hb21, ho21, -⟩
  obtain ⟨qa, qc, rfl⟩ := own_sl' ho21
  clear ho21
  rw [code_t [0]]
  have ZL := ext_alloc (ext_trans (ext_alloc (ext_refl W20) (.cells #[.int .i64 0] 3)) hb21) (.cells #[.int .i64 T21, .int .i64 V21, .int .i64 S21, .slice qa (byEvs 3 2 2 evN.tail [0]).length qc] 36)
  have m16 := later ZL k16.out
  have ma := later ZL ka.out
  have m17 := later ZL k17.out
  have mb := later ZL kb.out
  have m180 := later ZL k180.out
  have m181 := later ZL k181.out
  have m183 := later ZL k183.out
  have HYL := hid (ext_trans HY24.out ZL)
  clear ZL
  go_wp2_with fail
  go_ret
  first | exact HYL.out | exact ⟨rfl, HYL.out⟩ | exact ⟨trivial, HYL.out⟩
end Go.Proofs.YtnmbacleaijhmaaDoor
