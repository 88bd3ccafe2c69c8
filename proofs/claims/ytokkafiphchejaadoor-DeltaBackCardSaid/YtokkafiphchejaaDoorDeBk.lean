/-
  Walk: DeltaBack.
-/
import Derived.Test.YtokkafiphchejaaDoorDeJ
import Derived.Test.YtokkafiphchejaaDoorReg8
namespace Go.Proofs.YtokkafiphchejaaDoor
set_option linter.unusedVariables false
set_option linter.unusedSimpArgs false
set_option linter.unusedVariables false
open Go Go.RowKit
theorem bytesC_byte (T : Int) (c : Cdr) (e : Ev) : ∀ x ∈ bytesC T c e, x < 256 := by
  intro x hx
  unfold bytesC at hx
  obtain ⟨n, -, hn⟩ := List.mem_flatMap.1 hx
  exact putF_byte 10 n x hn
theorem bytesAll_byte (T : Int) : ∀ (l : List Ev) (c : Cdr), ∀ x ∈ bytesAll T c l, x < 256
  | [], c, x, hx => by simp [bytesAll] at hx
  | e :: r, c, x, hx => by
    rw [bytesAll] at hx
    rcases List.mem_append.1 hx with hx | hx
    · exact bytesC_byte T c e x hx
    · exact bytesAll_byte T r _ x hx
/-- One event more, by two coders that know the same. -/
theorem bk_last {T V S : Int} {W w : World} {cc : Cdr} {C D M ub vb : Nat} {me : Ev} (hKd : KindsAt W) (hme : EvOk me) (hsz : (1 ≤ T ∧ T ≤ 6) ∧ (1 ≤ V ∧ V ≤ 32) ∧ (1 ≤ S ∧ S ≤ 32)) (hc : OkC T cc)
    (h1 : Blk w C (cdrA T V S cc) 74) (h2 : Blk w D (cdrA T V S cc) 74) (h3 : Blk w ub #[.int .i64 100, .slice none 0 0] 77) (h4 : Blk w vb #[.int .i64 100, .slice none 0 0] 77) (h5 : Blk w M (evC me) 33) (hb : Below W.heap.size W w)
    (hne : W.heap.size ≤ M ∧ M < C ∧ C < D ∧ D < ub ∧ ub < vb) :
    ∃ (S0 S1 S2 : World → Prop) (r : Int) (tx : ByteArray), S0 w ∧
      (∀ w, S0 w → Calls Tryd.prog 12 #[.pointer (some ⟨C, 0, none⟩), .pointer (some ⟨ub, 0, none⟩), evA me] w fun e' w' => e' = .returned (.int .i64 r) ∧ S1 w') ∧
      (∀ w, S1 w → Calls Tryd.prog 12 #[.pointer (some ⟨D, 0, none⟩), .pointer (some ⟨vb, 0, none⟩), evA me] w fun e' w' => e' = .returned (.int .i64 r) ∧ S2 w') ∧
      (∀ w, S2 w → Calls Tryd.prog 19 #[.pointer (some ⟨ub, 0, none⟩)] w fun e' w' => e' = .returned (.string tx) ∧ w = w') ∧
      (∀ w, S2 w → Calls Tryd.prog 19 #[.pointer (some ⟨vb, 0, none⟩)] w fun e' w' => e' = .returned (.string tx) ∧ w = w') ∧
      (∀ w, S0 w → Blk w M (evC me) 33) ∧ (∀ w, S1 w → Blk w M (evC me) 33) ∧ (∀ w, S2 w → Blk w M (evC me) 33) ∧ (∀ w, S2 w → Below W.heap.size W w) := by
  obtain ⟨n1, n2, n3, n4, n5⟩ := hne
  have hu0 := h3.lt
  have hv0 := h4.lt
  have A0 : Wd T V S cc C ub 100 [] (ub + 1) (.slice none 0 0) w := ⟨h1, WrtO.new h3, hc, hsz, by omega, by omega, by omega, ⟨by omega, by omega⟩⟩
  have B0 : Wd T V S cc D vb 100 [] (vb + 1) (.slice none 0 0) w := ⟨h2, WrtO.new h4, hc, hsz, by omega, by omega, by omega, ⟨by omega, by omega⟩⟩
  cases ht : tellsC T V S cc me with
  | true =>
    have hby := bytes_len (V := V) (S := S) hc ht
    refine ⟨fun w => Wd T V S cc C ub 100 [] (ub + 1) (.slice none 0 0) w ∧ Wd T V S cc D vb 100 [] (vb + 1) (.slice none 0 0) w ∧ Blk w M (evC me) 33 ∧ Below W.heap.size W w,
      fun w => (∃ u, Wd T V S (knowsC cc me) C ub 100 (bytesC T cc me) (ub + 1) u w ∧ ∀ g, u.ownBlock = some g → vb < g) ∧ Wd T V S cc D vb 100 [] (vb + 1) (.slice none 0 0) w ∧ Blk w M (evC me) 33 ∧ Below W.heap.size W w,
      fun w => (∃ u, Wd T V S (knowsC cc me) C ub 100 (bytesC T cc me) (ub + 1) u w) ∧ (∃ u, Wd T V S (knowsC cc me) D vb 100 (bytesC T cc me) (vb + 1) u w) ∧ Blk w M (evC me) 33 ∧ Below W.heap.size W w,
      0, bstr (bytesC T cc me), ⟨A0, B0, h5, hb⟩, ?_, ?_, ?_, ?_, fun w h => h.2.2.1, fun w h => h.2.2.1, fun w h => h.2.2.1, fun w h => h.2.2.2⟩
    · rintro w ⟨a, b, m, hb⟩
      refine (wr_yes a (hKd.below hb) hme ht (by simp) (by simp)).mono fun e' w' hh => ?_
      obtain ⟨he, u', hd, hu, hT⟩ := hh
      have hbl := b.wr.blk.lt
      have hbo : D ∉ C :: ub :: (Value.slice none 0 0).ownBlock.toList ∧ vb ∉ C :: ub :: (Value.slice none 0 0).ownBlock.toList ∧ M ∉ C :: ub :: (Value.slice none 0 0).ownBlock.toList := by
        simp only [Value.ownBlock, Option.toList, List.mem_cons, List.not_mem_nil, or_false]
        omega
      refine ⟨he, ⟨u', ?_, ?_⟩, b.turn hT hbo.1 hbo.2.1 (by intro g hg; simp [Value.ownBlock] at hg), hT.blk hbo.2.2 m, hb.trans (a.low hT (by omega) (by omega))⟩
      · rw [List.nil_append] at hd; exact hd
      · intro g hg
        rcases hu with e | ⟨g', e, hg'⟩
        · rw [hg] at e; simp [Value.ownBlock] at e
        · rw [hg] at e; cases e; omega
    · rintro w ⟨⟨u, a, hug⟩, b, m, hb⟩
      refine (wr_yes b (hKd.below hb) hme ht (by simp) (by simp)).mono fun e' w' hh => ?_
      obtain ⟨he, u', hd, hu, hT⟩ := hh
      have hbo : C ∉ D :: vb :: (Value.slice none 0 0).ownBlock.toList ∧ ub ∉ D :: vb :: (Value.slice none 0 0).ownBlock.toList ∧ M ∉ D :: vb :: (Value.slice none 0 0).ownBlock.toList := by
        simp only [Value.ownBlock, Option.toList, List.mem_cons, List.not_mem_nil, or_false]
        omega
      refine ⟨he, ⟨u, a.turn hT hbo.1 hbo.2.1 (fun g hg => ?_)⟩, ⟨u', ?_⟩, hT.blk hbo.2.2 m, hb.trans (b.low hT (by omega) (by omega))⟩
      · have := hug g hg
        simp only [Value.ownBlock, Option.toList, List.mem_cons, List.not_mem_nil, or_false]
        omega
      · rw [List.nil_append] at hd; exact hd
    · rintro w ⟨⟨u, a⟩, -, -, -⟩
      exact wText_any ub 100 _ w a.wr.wrt (bytesC_byte T cc me)
    · rintro w ⟨-, ⟨u, a⟩, -, -⟩
      exact wText_any vb 100 _ w a.wr.wrt (bytesC_byte T cc me)
  | false =>
    refine ⟨fun w => Wd T V S cc C ub 100 [] (ub + 1) (.slice none 0 0) w ∧ Wd T V S cc D vb 100 [] (vb + 1) (.slice none 0 0) w ∧ Blk w M (evC me) 33 ∧ Below W.heap.size W w,
      fun w => Wd T V S cc C ub 100 [] (ub + 1) (.slice none 0 0) w ∧ Wd T V S cc D vb 100 [] (vb + 1) (.slice none 0 0) w ∧ Blk w M (evC me) 33 ∧ Below W.heap.size W w,
      fun w => Wd T V S cc C ub 100 [] (ub + 1) (.slice none 0 0) w ∧ Wd T V S cc D vb 100 [] (vb + 1) (.slice none 0 0) w ∧ Blk w M (evC me) 33 ∧ Below W.heap.size W w,
      4, bstr [], ⟨A0, B0, h5, hb⟩, ?_, ?_, ?_, ?_, fun w h => h.2.2.1, fun w h => h.2.2.1, fun w h => h.2.2.1, fun w h => h.2.2.2⟩
    · rintro w ⟨a, b, m, hb⟩
      exact (wr_no a (hKd.below hb) hme ht).mono fun e' w' hh => ⟨hh.1, a.below hh.2, b.below hh.2, m.below hh.2, ext_trans hb hh.2⟩
    · rintro w ⟨a, b, m, hb⟩
      exact (wr_no b (hKd.below hb) hme ht).mono fun e' w' hh => ⟨hh.1, a.below hh.2, b.below hh.2, m.below hh.2, ext_trans hb hh.2⟩
    · rintro w ⟨a, -, -, -⟩
      exact wText_any ub 100 _ w a.wr.wrt (by simp)
    · rintro w ⟨-, a, -, -⟩
      exact wText_any vb 100 _ w a.wr.wrt (by simp)
set_option maxRecDepth 100000 in
set_option maxHeartbeats 4000000 in
theorem dback_great (T V S : Int) (a : Option Addr) (n cap : Nat) (me : Ev) (W : World) (hKd : KindsAt W) (hn : 400 < n) : Calls Tryd.prog 8 #[.int .i64 T, .int .i64 V, .int .i64 S, .slice a n cap, evA me] W fun e' W' => e' = .returned (.bool true) ∧ Below W.heap.size W W' := by
  obtain ⟨W1, hW1⟩ : ∃ W1, W1 = W.alloc (.cells (evC me) 33) := ⟨_, rfl⟩
  have hb1 : Below W.heap.size W W1 := by rw [hW1]; exact ext_alloc (ext_refl _) _
  have HAW := hid (awake_any W1 (hKd.below hb1))
  have g1 : decide ((400 : Int) < (n : Int)) = true := by rw [decide_eq_true_iff]; omega
  have g2 : decide (400 < n) = true := by rw [decide_eq_true_iff]; omega
  clear hn hKd
  obtain ⟨Q, hQ⟩ : ∃ Q : Ending → World → Prop, Q = fun e' W' => e' = .returned (.bool true) ∧ Below W.heap.size W W' := ⟨_, rfl⟩
  rw [← hQ]
  have HQ := hid hQ
  have HB1 := hid hb1
  unfold evC at hW1
  have HW1 := hid hW1
  clear hQ hb1 hW1
  unfold evA
  go_enter Tryd.func8, Tryd.ntmps8
  go_wp2_with fail
  rw [← HW1.out]
  refine HAW.out.mono ?_
  rintro e' W2 ⟨rfl, hb2⟩
  go_wp2_with fail
  rw [HQ.out]
  exact ⟨rfl, ext_trans HB1.out hb2⟩
set_option maxRecDepth 100000 in
set_option maxHeartbeats 2000000 in
theorem dback_bad (T V S : Int) (a : Option Addr) (n cap : Nat) (me : Ev) (W : World) (hKd : KindsAt W) (hn : n ≤ 400) (hz : sizesB T V S = false) : Calls Tryd.prog 8 #[.int .i64 T, .int .i64 V, .int .i64 S, .slice a n cap, evA me] W fun e' W' => e' = .returned (.bool true) ∧ Below W.heap.size W W' := by
  obtain ⟨W1, hW1⟩ : ∃ W1, W1 = W.alloc (.cells (evC me) 33) := ⟨_, rfl⟩
  have hb1 : Below W.heap.size W W1 := by rw [hW1]; exact ext_alloc (ext_refl _) _
  have HAW := hid (awake_any W1 (hKd.below hb1))
  have g1 : decide ((400 : Int) < (n : Int)) = false := by rw [decide_eq_false_iff_not]; omega
  have g2 : decide (400 < n) = false := by rw [decide_eq_false_iff_not]; omega
  have HK := hid hKd
  have HZ := hid hz
  clear hn hKd hz
  obtain ⟨Q, hQ⟩ : ∃ Q : Ending → World → Prop, Q = fun e' W' => e' = .returned (.bool true) ∧ Below W.heap.size W W' := ⟨_, rfl⟩
  rw [← hQ]
  have HQ := hid hQ
  have HB1 := hid hb1
  unfold evC at hW1
  have HW1 := hid hW1
  clear hQ hb1 hW1
  unfold evA
  go_enter Tryd.func8, Tryd.ntmps8
  go_wp2_with fail
  rw [← HW1.out]
  refine HAW.out.mono ?_
  rintro e' W2 ⟨rfl, hb2⟩
  have HB2 := hid (ext_trans HB1.out hb2)
  clear hb2 HAW
  go_wp2_with fail
  refine (new_bad' T V S W2 (HK.out.below HB2.out) HZ.out).mono ?_
  rintro e' W3 ⟨rfl, hb1⟩
  have HB3 := hid (ext_trans HB2.out hb1)
  clear hb1
  go_wp2_with fail
  refine (new_bad' T V S W3 (HK.out.below HB3.out) HZ.out).mono ?_
  rintro e' W4 ⟨rfl, hb1⟩
  have HB4 := hid (ext_trans HB3.out hb1)
  clear hb1
  go_wp2_with fail
  refine (newWriter_any 16777216 W4 ⟨by omega, by omega⟩).mono ?_
  rintro e' W5 ⟨rfl, hw3, hb1⟩
  have HB5 := hid (ext_trans HB4.out hb1)
  clear hb1 hw3
  go_wp2_with fail
  rw [HQ.out]
  exact ⟨rfl, HB5.out⟩
/-- What the second loop keeps: so many have been read. -/
structure Bk2 (T V S : Int) (W : World) (C D b M rb : Nat) (me : Ev) (tw : List Ev) (tv : Value) (s : ByteArray) (j : Nat) (wr : World) : Prop where
  co : Blk wr C (cdrA T V S (cAll newC tw)) 74
  cd : Blk wr D (cdrA T V S (cAll newC (tw.take j))) 74
  rd : RdrAt wr rb s (bytesAll T newC (tw.take j)).length 0
  own : wr.ownsRow (b + 1) 33 7 tv tw.length (tw.flatMap evL)
  lt : ∀ g, tv.ownBlock = some g → g < rb
  mo : Blk wr M (evC me) 33
  be : Below W.heap.size W wr
theorem flat_at (tw : List Ev) (k : Nat) (h : k < tw.length) (j : Nat) (v : Value) (hv : (evL tw[k])[j]? = some v) : (tw.flatMap evL)[k * 7 + j]? = some v := by
  induction tw generalizing k with
  | nil => simp at h
  | cons e r ih =>
    have hlen : (evL e).length = 7 := rfl
    rw [List.flatMap_cons]
    cases k with
    | zero =>
      have hj : j < 7 := by
        rcases Nat.lt_or_ge j 7 with h | h
        · exact h
        · simp only [List.getElem_cons_zero] at hv
          rw [List.getElem?_eq_none (by rw [hlen]; exact h)] at hv; cases hv
      rw [List.getElem?_append_left (by rw [hlen]; omega)]
      simpa using hv
    | succ k =>
      rw [List.getElem?_append_right (by rw [hlen]; omega), hlen]
      have : (k + 1) * 7 + j - 7 = k * 7 + j := by omega
      rw [this]
      exact ih k (by simpa using h) (by simpa using hv)
theorem Bk2.cell {T V S : Int} {W : World} {C D b M rb : Nat} {me : Ev} {tw : List Ev} {tv : Value} {s : ByteArray} {j : Nat} {wr : World} (h : Bk2 T V S W C D b M rb me tw tv s j wr) {g c : Nat} (hv : tv = .slice (some ⟨g, 0, none⟩) tw.length c) (k : Nat) (hk : k < tw.length) (i : Nat) (v : Value) (hi : (evL tw[k])[i]? = some v) : wr.cell? ⟨g, k * 7 + i, none⟩ = some v := by
  subst hv
  have := h.own.cells (g := g) rfl _ _ (flat_at tw k hk i v hi)
  have hh : (⟨g, 0, none⟩ : Addr).add (k * 7 + i) = ⟨g, k * 7 + i, none⟩ := by unfold Addr.add; split <;> simp_all
  rwa [hh] at this
theorem Bk2.read {T V S : Int} {W : World} {C D b M rb : Nat} {me : Ev} {tw : List Ev} {tv : Value} {s : ByteArray} {j : Nat} {wr w' : World} (h : Bk2 T V S W C D b M rb me tw tv s j wr) (hM : W.heap.size ≤ M ∧ M < C ∧ C < D ∧ D < b ∧ b < rb) {c' : Cdr} {at' : Nat}
    (hc : Blk w' D (cdrA T V S (cAll newC (tw.take (j + 1)))) 74) (hr : RdrAt w' rb s (bytesAll T newC (tw.take (j + 1))).length 0) (hT : Turn [D, rb] wr w') : Bk2 T V S W C D b M rb me tw tv s (j + 1) w' := by
  obtain ⟨m1, m2, m3, m4, m5⟩ := hM
  refine ⟨hT.blk (by simp only [List.mem_cons, List.not_mem_nil, or_false]; omega) h.co, hc, hr, own_turn h.own hT fun g hg => ?_, h.lt, hT.blk (by simp only [List.mem_cons, List.not_mem_nil, or_false]; omega) h.mo, h.be.trans (hT.below (fun x hx => ?_) h.be.size)⟩
  · have h1 := (h.own.lt g hg).1
    have h2 := h.lt g hg
    simp only [List.mem_cons, List.not_mem_nil, or_false]; omega
  · simp only [List.mem_cons, List.not_mem_nil, or_false] at hx
    omega
theorem Bk2.below {T V S : Int} {W : World} {C D b M rb : Nat} {me : Ev} {tw : List Ev} {tv : Value} {s : ByteArray} {j : Nat} {wr w' : World} (h : Bk2 T V S W C D b M rb me tw tv s j wr) (hb : Below wr.heap.size wr w') : Bk2 T V S W C D b M rb me tw tv s j w' :=
  ⟨h.co.below hb, h.cd.below hb, Blk.below hb h.rd, h.own.kept (dgrown_below hb) (by cases tv.ownBlock <;> simp), h.lt, h.mo.below hb, ext_trans h.be hb⟩
set_option maxRecDepth 100000 in
set_option maxHeartbeats 4000000 in
theorem dback_ok (T V S : Int) (a : Option Addr) (l : List Ev) (cap : Nat) (me : Ev) (W : World) (hE : EvsAt W a l) (hKd : KindsAt W) (hn : l.length ≤ 400) (hme : EvOk me) (hz : sizesB T V S = true) : Calls Tryd.prog 8 #[.int .i64 T, .int .i64 V, .int .i64 S, .slice a l.length cap, evA me] W fun e' W' => e' = .returned (.bool true) ∧ Below W.heap.size W W' := by
  obtain ⟨W1, hW1⟩ : ∃ W1, W1 = W.alloc (.cells (evC me) 33) := ⟨_, rfl⟩
  have hb1 : Below W.heap.size W W1 := by rw [hW1]; exact ext_alloc (ext_refl _) _
  have hm1 : Blk W1 W.heap.size (evC me) 33 := by rw [hW1]; exact Blk.new _ _ _
  have HAW := hid (awake_any W1 (hKd.below hb1))
  have g1 : decide ((400 : Int) < (l.length : Int)) = false := by rw [decide_eq_false_iff_not]; omega
  have g2 : decide (400 < l.length) = false := by rw [decide_eq_false_iff_not]; omega
  have HK := hid hKd
  have HZ := hid hz
  have HE := hid hE
  have HL := hid hn
  have HME := hid hme
  have HM1 := hid hm1
  have HSZ : Hid (1 ≤ T ∧ T ≤ 6 ∧ 1 ≤ V ∧ V ≤ 32 ∧ 1 ≤ S ∧ S ≤ V) := hid (by unfold sizesB at hz; exact of_decide_eq_true hz)
  clear hn hKd hz hE hme hm1
  obtain ⟨Q, hQ⟩ : ∃ Q : Ending → World → Prop, Q = fun e' W' => e' = .returned (.bool true) ∧ Below W.heap.size W W' := ⟨_, rfl⟩
  rw [← hQ]
  have HQ := hid hQ
  have HB1 := hid hb1
  unfold evC at hW1
  have HW1 := hid hW1
  clear hQ hb1 hW1
  unfold evA
  go_enter Tryd.func8, Tryd.ntmps8
  go_wp2_with fail
  rw [← HW1.out]
  refine HAW.out.mono ?_
  rintro e' W2 ⟨rfl, hb2⟩
  have HB2 := hid (ext_trans HB1.out hb2)
  have HM2 := hid (HM1.out.below hb2)
  clear hb2 HAW
  go_wp2_with fail
  refine (new_any T V S W2 (HK.out.below HB2.out) HZ.out).mono ?_
  rintro e' W3 ⟨C, rfl, hC0, hC, hb1⟩
  have HC := hid hC
  have HC0 := hid hC0
  have HM3 := hid (HM2.out.below hb1)
  have HB3 := hid (ext_trans HB2.out hb1)
  clear hC hC0 hb1
  go_wp2_with fail
  refine (new_any T V S W3 (HK.out.below HB3.out) HZ.out).mono ?_
  rintro e' W4 ⟨D, rfl, hD0, hD, hb1⟩
  have HD := hid hD
  have HD0 := hid hD0
  have HC4 := hid (HC.out.below hb1)
  have HM4 := hid (HM3.out.below hb1)
  have HB4 := hid (ext_trans HB3.out hb1)
  clear hD hD0 hb1
  go_wp2_with fail
  refine (newWriter_any 16777216 W4 ⟨by omega, by omega⟩).mono ?_
  rintro e' W5 ⟨rfl, hw5, hb1⟩
  have hSZ := HSZ.out
  have q0 := HM2.out.lt
  have q1 := HC0.out
  have q2 := HC.out.lt
  have q3 := HD0.out
  have q4 := HD.out.lt
  have I0 : BkI T V S W C D W4.heap.size W.heap.size me [] [] (.slice none 0 0) (.slice none 0 0) W5 := ⟨⟨HC4.out.below hb1, WrtO.new hw5, okC_new (by omega), ⟨⟨by omega, by omega⟩, ⟨by omega, by omega⟩, ⟨by omega, by omega⟩⟩, by omega, by omega, hw5.lt, ⟨by omega, by omega⟩⟩, HD.out.below hb1, trivial, (fun e h => by cases h), World.ownsRow_nil _ _ _ _, (fun g hg => by simp [Value.ownBlock] at hg), HM4.out.below hb1, ext_trans HB4.out hb1⟩
  have hNE : W.heap.size ≤ W.heap.size ∧ W.heap.size < C ∧ C < D ∧ D < W4.heap.size := ⟨Nat.le_refl _, by omega, by omega, by omega⟩
  obtain ⟨M, hM⟩ : ∃ M, M = W.heap.size := ⟨_, rfl⟩
  have hM' : BkI T V S W C D W4.heap.size M me [] [] (.slice none 0 0) (.slice none 0 0) W5 := by rw [hM]; exact I0
  have hNE' : W.heap.size ≤ M ∧ M < C ∧ C < D ∧ D < W4.heap.size := by rw [hM]; exact hNE
  have HMM := hid hM
  generalize W4.heap.size = b at hM' hNE' ⊢
  have HI := hid hM'
  have HNE := hid hNE'
  rw [show W.heap.size = M from hM.symm]
  clear hM hM' hNE' I0 hNE q0 q1 q2 q3 q4 hSZ hb1 hw5 HB1 HB2 HB3 HB4 HC HC0 HC4 HD HD0 HM1 HM2 HM3 HM4 HW1
  go_wp2_with fail
  go_loopw [17, 18] (fun tv i wr => ∃ (k : Nat) (tw : List Ev) (u z : Value), k ≤ l.length ∧ z = tv ∧ i = .int .i64 (k : Int) ∧ Hid (BkI T V S W C D b M me tw tw u z wr) ∧ Hid (tw.length ≤ k)) (fun _ i _ => l.length - (intOf i).toNat)
  case atStart => exact ⟨0, [], _, _, Nat.zero_le _, rfl, rfl, HI, hid (Nat.le_refl _)⟩
  case round =>
    clear HI
    obtain ⟨k, tw, u, tv, hkl, rfl, rfl, HI, HTL⟩ := hrel
    have HKL := hid hkl
    have hbl : (bytesAll T newC tw).length ≤ 12 * k := by
      have h1 := bytesAll_len tw (okC_new (T := T) (by have := HSZ.out; omega)) HI.out.ok
      have := HTL.out; omega
    have HLN := hid (wLen_any b 16777216 _ wr HI.out.wd.wr.wrt (by have := HL.out; omega))
    by_cases hlt : k < l.length
    · have j1 : decide ((k : Int) < (l.length : Int)) = true := by rw [decide_eq_true_iff]; omega
      have j2 : (0 : Int) ≤ (k : Int) := by omega
      have j3 : IntKind.i64.wrap ((k : Int) + 1) = (k : Int) + 1 := IntWalk.i64_in _ (by have := HL.out; omega)
      have j4 : decide (k < l.length) = true := by rw [decide_eq_true_iff]; omega
      obtain ⟨b', o, rfl, hcell⟩ := HE.out.2 (by intro h; rw [h] at hlt; simp at hlt)
      have HOK := hid (HE.out.1 l[k] (List.getElem_mem hlt))
      rcases hek : l[k] with ⟨kind, th, tx, at_, v, x', why⟩
      have hc0 := fun w' (hb : Below W.heap.size W w') => later hb (hcell k hlt 0 (.int .u8 kind) (by rw [hek]; rfl))
      have hc1 := fun w' (hb : Below W.heap.size W w') => later hb (hcell k hlt 1 (.int .i64 th) (by rw [hek]; rfl))
      have hc2 := fun w' (hb : Below W.heap.size W w') => later hb (hcell k hlt 2 (.int .i64 tx) (by rw [hek]; rfl))
      have hc3 := fun w' (hb : Below W.heap.size W w') => later hb (hcell k hlt 3 (.int .i64 at_) (by rw [hek]; rfl))
      have hc4 := fun w' (hb : Below W.heap.size W w') => later hb (hcell k hlt 4 (.int .i64 v) (by rw [hek]; rfl))
      have hc5 := fun w' (hb : Below W.heap.size W w') => later hb (hcell k hlt 5 (.int .i64 x') (by rw [hek]; rfl))
      have hc6 := fun w' (hb : Below W.heap.size W w') => later hb (hcell k hlt 6 (.int .u8 why) (by rw [hek]; rfl))
      simp only [Nat.add_zero] at hc0
      have HCS := hid (And.intro hc0 (And.intro hc1 (And.intro hc2 (And.intro hc3 (And.intro hc4 (And.intro hc5 hc6))))))
      have e0 := hc0 wr HI.out.be
      have e1 := hc1 wr HI.out.be
      have e2 := hc2 wr HI.out.be
      have e3 := hc3 wr HI.out.be
      have e4 := hc4 wr HI.out.be
      have e5 := hc5 wr HI.out.be
      have e6 := hc6 wr HI.out.be
      rw [hek] at HOK
      have HLT := hid hlt
      have HBL := hid hbl
      clear hcell hek hlt hkl hbl hc0 hc1 hc2 hc3 hc4 hc5 hc6
      have hkd := HK.out.below HI.out.be
      cases ht : tellsC T V S (cAll newC tw) ⟨kind, th, tx, at_, v, x', why⟩ with
      | true =>
        have HW := hid (wr_yes HI.out.wd hkd HOK.out ht (by have := HBL.out; have := HLT.out; have := HL.out; omega) (by have := HBL.out; have := HLT.out; have := HL.out; omega))
        dsimp only [evA] at HW
        have hby := bytes_len HI.out.wd.ok ht
        have hsn := told_snoc HI.out.ok ht HOK.out.2.2.2.2.2.1
        obtain ⟨n0, hn0⟩ : ∃ n0, n0 = (bytesAll T newC tw).length := ⟨_, rfl⟩
        obtain ⟨n1, hn1⟩ : ∃ n1, n1 = (bytesAll T newC (tw ++ [⟨kind, th, tx, at_, v, x', why⟩])).length := ⟨_, rfl⟩
        have hn2 : n1 = n0 + (bytesC T (cAll newC tw) ⟨kind, th, tx, at_, v, x', why⟩).length := by rw [hn1, hsn.2.1, List.length_append, hn0]
        have HT := hid ht
        rw [← hn0] at HLN
        have hbl0 : n0 ≤ 12 * k := by rw [hn0]; exact HBL.out
        have hl400 := HL.out
        have hlt0 := HLT.out
        have k1 : decide ((n1 : Int) ≤ (n0 : Int)) = false := by rw [decide_eq_false_iff_not]; omega
        have k2 : IntKind.i64.wrap ((n0 : Int) + 16) = (n0 : Int) + 16 := IntWalk.i64_in _ (by omega)
        have k3 : decide ((n0 : Int) + 16 < (n1 : Int)) = false := by rw [decide_eq_false_iff_not]; omega
        have k4 : decide (n1 ≤ n0) = false := by rw [decide_eq_false_iff_not]; omega
        have k5 : decide (n0 + 16 < n1) = false := by rw [decide_eq_false_iff_not]; omega
        have HN1 := hid hn1
        have HN16 := hid (show n1 ≤ 16777216 by omega)
        clear ht hby hsn hn0 hn1 hn2 hbl0 hl400 hlt0 hkd
        go_wp2_with fail
        refine HLN.out.mono ?_
        rintro e' w2 ⟨rfl, rfl⟩
        go_wp2_with fail
        refine HW.out.mono ?_
        intro e' w3 hyes
        obtain ⟨rfl, u', hI3⟩ := HI.out.write HNE.out HOK.out HT.out hyes
        have HI3 := hid hI3
        obtain ⟨tv', w4, hrun, ⟨g9, c9, rfl⟩, hI4⟩ := hI3.app HNE.out (e := ⟨kind, th, tx, at_, v, x', why⟩) (by have := HTL.out; have := HLT.out; have := HL.out; omega)
        dsimp only [evC] at hrun
        have HRUN := hid hrun
        have HI4 := hid hI4
        obtain ⟨c0, c1, c2, c3, c4, c5, c6⟩ := HCS.out
        have e0 := c0 w3 hI3.be
        have e1 := c1 w3 hI3.be
        have e2 := c2 w3 hI3.be
        have e3 := c3 w3 hI3.be
        have e4 := c4 w3 hI3.be
        have e5 := c5 w3 hI3.be
        have e6 := c6 w3 hI3.be
        have HLN4 := hid (wLen_any b 16777216 _ w4 hI4.wd.wr.wrt (by rw [← HN1.out]; exact HN16.out))
        rw [← HN1.out] at HLN4
        clear hyes hI3 hrun hI4 c0 c1 c2 c3 c4 c5 c6 HW
        go_wp2_with (at_builtin; refine wpList_append_run rfl (.tmp 90) (.tmp 95) 22 22 _ _ (.slice (some ⟨g9, 0, none⟩) (tw.length + 1) c9) rfl rfl rfl HRUN.out ?_)
        refine HLN4.out.mono ?_
        rintro e' w5 ⟨rfl, rfl⟩
        go_wp2_with fail
        refine HLN4.out.mono ?_
        rintro e' w5 ⟨rfl, rfl⟩
        go_wp2_with fail
        go_roundw
        case rel => exact ⟨k + 1, tw ++ [⟨kind, th, tx, at_, v, x', why⟩], u', _, by have := HLT.out; omega, rfl, by simp, HI4, hid (by have := HTL.out; simp; omega)⟩
        case measure => have := HLT.out; simp [intOf]; omega
      | false =>
        have HW := hid (wr_no HI.out.wd hkd HOK.out ht)
        dsimp only [evA] at HW
        obtain ⟨n0, hn0⟩ : ∃ n0, n0 = (bytesAll T newC tw).length := ⟨_, rfl⟩
        rw [← hn0] at HLN
        have HN0 := hid hn0
        have k1 : ((n0 : Int) != (n0 : Int)) = false := by simp
        clear ht hn0 hkd
        go_wp2_with fail
        refine HLN.out.mono ?_
        rintro e' w2 ⟨rfl, rfl⟩
        go_wp2_with fail
        refine HW.out.mono ?_
        rintro e' w3 ⟨rfl, hb3⟩
        have HI3 := hid (HI.out.below hb3)
        have HLN3 := hid (wLen_any b 16777216 _ w3 HI3.out.wd.wr.wrt (by have := HBL.out; have := HLT.out; have := HL.out; omega))
        rw [← HN0.out] at HLN3
        clear hb3 HW
        go_wp2_with fail
        refine HLN3.out.mono ?_
        rintro e' w5 ⟨rfl, rfl⟩
        go_wp2_with fail
        go_roundw
        case rel => exact ⟨k + 1, tw, u, _, by have := HLT.out; omega, rfl, by simp, HI3, hid (by have := HTL.out; omega)⟩
        case measure => have := HLT.out; simp [intOf]; omega
    · obtain rfl : k = l.length := by omega
      have j1 : decide ((l.length : Int) < (l.length : Int)) = false := by rw [decide_eq_false_iff_not]; omega
      have j4 : decide (l.length < l.length) = false := by rw [decide_eq_false_iff_not]; omega
      have htl : tw.length ≤ 400 := by have := HTL.out; have := HL.out; omega
      have HTX := hid (wText_any b 16777216 _ wr HI.out.wd.wr.wrt (bytesAll_byte T tw newC))
      obtain ⟨s, hs⟩ : ∃ s, s = bstr (bytesAll T newC tw) := ⟨_, rfl⟩
      have hsb : byt s = bytesAll T newC tw := by rw [hs]; exact byt_bstr (bytesAll_byte T tw newC)
      rw [← hs] at HTX
      have hss : s.size ≤ 4800 := by
        rw [← byt_len, hsb]; have := HL.out; omega
      obtain ⟨av, cv, htv, hav⟩ : ∃ (av : Option Addr) (cv : Nat), tv = .slice av tw.length cv ∧ (0 < tw.length → ∃ g, av = some ⟨g, 0, none⟩) := by
        rcases HI.out.own.2 with ⟨h1, h2⟩ | ⟨g, c, cur, h1, -⟩
        · exact ⟨none, 0, by rw [h1, h2], fun h => by omega⟩
        · exact ⟨some ⟨g, 0, none⟩, c, h1, fun _ => ⟨g, rfl⟩⟩
      subst htv
      have HTLN := hid htl
      have HSB := hid hsb
      have HSS := hid hss
      have HAV := hid hav
      clear hs hsb hss hav htl hbl hkl hlt HKL HLN HE
      go_wp2_with fail
      refine HTX.out.mono ?_
      rintro e' w2 ⟨rfl, rfl⟩
      go_wp2_with fail
      refine (newReader_any s wr (by have := HSS.out; omega)).mono ?_
      rintro e' w3 ⟨rfl, hr3, hb3⟩
      have hI3 := HI.out.below hb3
      have K0 : Bk2 T V S W C D b M wr.heap.size me tw (.slice av tw.length cv) s 0 w3 := ⟨hI3.wd.co, hI3.co, hr3, hI3.own, fun g hg => (HI.out.own.lt g hg).2, hI3.mo, hI3.be⟩
      have hNE2 : W.heap.size ≤ M ∧ M < C ∧ C < D ∧ D < b ∧ b < wr.heap.size := ⟨HNE.out.1, HNE.out.2.1, HNE.out.2.2.1, HNE.out.2.2.2, HI.out.wd.wr.blk.lt⟩
      generalize wr.heap.size = rb at K0 hNE2 ⊢
      have HK2 := hid K0
      have HNE2 := hid hNE2
      have HTO := hid HI.out.ok
      have HCO := hid HI.out.wd.ok
      have HSZ3 := hid HI.out.wd.sz
      clear K0 hNE2 hI3 hr3 hb3 HI HTX HNE
      go_wp2_with fail
      go_loopw [23] (fun i wr => ∃ (j : Nat), j ≤ tw.length ∧ i = .int .i64 (j : Int) ∧ Hid (Bk2 T V S W C D b M rb me tw (.slice av tw.length cv) s j wr)) (fun i _ => tw.length - (intOf i).toNat)
      case atStart => exact ⟨0, Nat.zero_le _, rfl, HK2⟩
      case round =>
        clear HK2
        obtain ⟨j, hjl, rfl, HK2⟩ := hrel
        by_cases hlt : j < tw.length
        · have j1 : decide ((j : Int) < (tw.length : Int)) = true := by rw [decide_eq_true_iff]; omega
          have j2 : (0 : Int) ≤ (j : Int) := by omega
          have j3 : IntKind.i64.wrap ((j : Int) + 1) = (j : Int) + 1 := IntWalk.i64_in _ (by have := HTLN.out; omega)
          have j4 : decide (j < tw.length) = true := by rw [decide_eq_true_iff]; omega
          have j5 : (j : Int) < (tw.length : Int) := by omega
          obtain ⟨g, rfl⟩ := HAV.out (by omega)
          have hsplit : tw = tw.take j ++ tw[j] :: tw.drop (j + 1) := by rw [List.getElem_cons_drop, List.take_append_drop]
          have hrc := read_at (T := T) (V := V) (S := S) (c := newC) (a := tw.take j) (b := tw.drop (j + 1)) (e := tw[j]) (okC_new (by have := HSZ.out; omega)) (by rw [← hsplit]; exact HTO.out)
          rw [← hsplit, ← List.take_succ_eq_append_getElem hlt] at hrc
          rw [← HSB.out] at hrc
          have hok1 : OkC T (cAll newC (tw.take j)) := by
            refine told_ok (V := V) (S := S) _ (okC_new (by have := HSZ.out; omega)) ?_
            have := HTO.out
            rw [hsplit] at this
            exact ((told_app T V S _ _ _).1 this).1
          have hat : (bytesAll T newC (tw.take j)).length ≤ s.size := by
            rw [← byt_len, HSB.out]
            have h1 : bytesAll T newC tw = bytesAll T newC (tw.take j ++ tw.drop j) := by rw [List.take_append_drop]
            rw [h1, bytesAll_app, List.length_append]; omega
          have HR := hid (dread_any T V S (cAll newC (tw.take j)) s _ D rb wr HK2.out.cd HSZ3.out.1 HSZ3.out.2.1 ⟨HSZ3.out.2.2.1, by have := HSZ.out; omega⟩ hok1 HK2.out.rd (by have := HSS.out; omega) hat (by have := HNE2.out; omega))
          rw [hrc] at HR
          unfold ReadEP at HR
          have hcl := fun w' (h : Bk2 T V S W C D b M rb me tw (.slice (some ⟨g, 0, none⟩) tw.length cv) s (j + 1) w') (i : Nat) (v : Value) (hi : (evL tw[j])[i]? = some v) => h.cell rfl j hlt i v hi
          have HLT := hid hlt
          generalize tw[j] = ej at HR hcl
          obtain ⟨kind, th, tx, at_, v, x', why⟩ := ej
          dsimp only [evA] at HR
          have HCL := hid hcl
          clear hrc hok1 hat hsplit hcl hlt hjl
          go_wp2_with fail
          refine HR.out.mono ?_
          rintro e' w1 ⟨rfl, hC1, hR1, hT1⟩
          have hK1 := HK2.out.read HNE2.out (c' := newC) (at' := 0) hC1 hR1 hT1
          obtain ⟨Wz, hWz⟩ : ∃ Wz, Wz = w1.alloc (.cells #[.int .u8 kind, .int .i64 th, .int .i64 tx, .int .i64 at_, .int .i64 v, .int .i64 x', .int .u8 why] 33) := ⟨_, rfl⟩
          have hbz : Below w1.heap.size w1 Wz := by rw [hWz]; exact ext_alloc (ext_refl _) _
          have hez : Blk Wz w1.heap.size #[.int .u8 kind, .int .i64 th, .int .i64 tx, .int .i64 at_, .int .i64 v, .int .i64 x', .int .u8 why] 33 := by rw [hWz]; exact Blk.new _ _ _
          have e0 := hez.cell 0 (v := .int .u8 kind) rfl
          have e1 := hez.cell 1 (v := .int .i64 th) rfl
          have e2 := hez.cell 2 (v := .int .i64 tx) rfl
          have e3 := hez.cell 3 (v := .int .i64 at_) rfl
          have e4 := hez.cell 4 (v := .int .i64 v) rfl
          have e5 := hez.cell 5 (v := .int .i64 x') rfl
          have e6 := hez.cell 6 (v := .int .u8 why) rfl
          have hKz := hK1.below hbz
          have d0 := HCL.out Wz hKz 0 (.int .u8 kind) rfl
          have d1 := HCL.out Wz hKz 1 (.int .i64 th) rfl
          have d2 := HCL.out Wz hKz 2 (.int .i64 tx) rfl
          have d3 := HCL.out Wz hKz 3 (.int .i64 at_) rfl
          have d4 := HCL.out Wz hKz 4 (.int .i64 v) rfl
          have d5 := HCL.out Wz hKz 5 (.int .i64 x') rfl
          have d6 := HCL.out Wz hKz 6 (.int .u8 why) rfl
          rw [Nat.add_zero] at d0
          have HKZ := hid hKz
          have HWZ := hid hWz
          clear hK1 hC1 hR1 hT1 hWz hez hbz hKz HR HK2
          go_wp2_with (rw [← HWZ.out]; go_simp)
          go_quiet (fail)
          have HK3 := hid (HKZ.out.below (ext_drewN (ext_refl Wz) nq))
          clear e0 e1 e2 e3 e4 e5 e6 d0 d1 d2 d3 d4 d5 d6 HKZ HWZ
          go_wp2_with fail
          go_roundw
          case rel => exact ⟨j + 1, by have := HLT.out; omega, by simp, HK3⟩
          case measure => have := HLT.out; simp [intOf]; omega
        · obtain rfl : j = tw.length := by omega
          have j1 : decide ((tw.length : Int) < (tw.length : Int)) = false := by rw [decide_eq_false_iff_not]; omega
          have j4 : decide (tw.length < tw.length) = false := by rw [decide_eq_false_iff_not]; omega
          have hat : (bytesAll T newC (tw.take tw.length)).length = s.size := by
            rw [← byt_len, HSB.out, List.take_length]
          have HEND := hid (rend_any rb s _ 0 wr HK2.out.rd (by have := HSS.out; omega) (by rw [hat]; exact Nat.le_refl _))
          have hend : endR ⟨byt s, (bytesAll T newC (tw.take tw.length)).length, 0⟩ = ⟨byt s, s.size, 0⟩ := by
            unfold endR; dsimp only; rw [if_neg (by simp), hat, if_neg (by rw [byt_len]; omega)]
          rw [hend] at HEND
          clear hend hat hjl hlt
          go_wp2_with fail
          refine HEND.out.mono ?_
          rintro e' w1 ⟨rfl, hr1, hT1⟩
          have hK := HK2.out
          obtain ⟨m1, m2, m3, m4, m5⟩ := HNE2.out
          have HC1 := hid (hT1.blk (k := C) (by simp only [List.mem_cons, List.not_mem_nil, or_false]; omega) hK.co)
          have hcd := hK.cd
          rw [List.take_length] at hcd
          have HD1 := hid (hT1.blk (k := D) (by simp only [List.mem_cons, List.not_mem_nil, or_false]; omega) hcd)
          have HM1 := hid (hT1.blk (k := M) (by simp only [List.mem_cons, List.not_mem_nil, or_false]; omega) hK.mo)
          have HB1 := hid (hK.be.trans (hT1.below (fun x hx => by simp only [List.mem_cons, List.not_mem_nil, or_false] at hx; omega) hK.be.size))
          clear hr1 hT1 hK hcd m1 m2 m3 m4 m5 HEND
          go_wp2_with fail
          refine (newWriter_any 100 w1 ⟨by omega, by omega⟩).mono ?_
          rintro e' w2 ⟨rfl, hu2, hb2⟩
          have HU2 := hid hu2
          have HB2 := hid hb2
          clear hu2 hb2
          go_wp2_with fail
          refine (newWriter_any 100 w2 ⟨by omega, by omega⟩).mono ?_
          rintro e' w3 ⟨rfl, hv3, hb3⟩
          have hlt1 := HU2.out.lt
          have hbb := ext_trans HB2.out hb3
          have hDlt := HD1.out.lt
          obtain ⟨m1, m2, m3, m4, m5⟩ := HNE2.out
          obtain ⟨S0, S1, S2, r, txt, hS0, hC0, hC1, hX, hY, hM0, hM1, hM2, hE2⟩ := bk_last (T := T) (V := V) (S := S) (W := W) (w := w3.drew) (cc := cAll newC tw) (C := C) (D := D) (M := M) (ub := w1.heap.size) (vb := w2.heap.size) (me := me) HK.out HME.out HSZ3.out HCO.out (HC1.out.below hbb).drew (HD1.out.below hbb).drew (HU2.out.below hb3).drew hv3.drew (HM1.out.below hbb).drew (ext_drew (ext_trans HB1.out hbb)) (by omega)
          generalize w1.heap.size = ub at hC0 hX ⊢
          generalize w2.heap.size = vb at hC1 hY ⊢
          have HS0 := hid hS0
          have HC0 := hid hC0
          have HC1' := hid hC1
          have HX := hid hX
          have HY := hid hY
          have HM0 := hid hM0
          have HMM1 := hid hM1
          have HM2 := hid hM2
          have HE2 := hid hE2
          clear hS0 hC0 hC1 hX hY hM0 hM1 hM2 hE2 hlt1 hbb hDlt m1 m2 m3 m4 m5 hv3 hb3 HU2 HB2 HC1 HD1 HM1 HB1 HK2
          go_wp2_with fail
          apply wp_region_knownJ (fun qq => ([.int .i64 0, .bool true, .bool true, .int .i64 0, .bool true, .bool true, .bool true, .pointer (some ⟨C, 0, none⟩), .pointer (some ⟨ub, 0, none⟩), evA me, .int .i64 r, .pointer (some ⟨D, 0, none⟩), .pointer (some ⟨vb, 0, none⟩), evA me, .int .i64 r, .bool true, .bool true, .bool true, .pointer (some ⟨ub, 0, none⟩), .string txt, .pointer (some ⟨vb, 0, none⟩), .string txt, .bool true, .bool true, .bool true] : List Value).getD qq undef) (Two S0 S1 S2 25 10 14 17)
          focus (simp [putAll, dstOf, Act.put, List.getD]; rfl)
          case hm => kernel_rfl
          case hd => kernel_rfl
          case hb => kernel_rfl
          case hng => kernel_rfl
          case hsz => kernel_rfl
          case hext => exact fun l l' w h H => H.ext (by decide) (by decide) (by decide) h
          case h0 => exact Two.start HS0.out
          case hstep =>
            refine ⟨?_, ?_, ?_, ?_, ?_, ?_, ?_, ?_, ?_, ?_, ?_, ?_, ?_, ?_, ?_, ?_, ?_, ?_, ?_, ?_, ?_, ?_, ?_, ?_, ?_, trivial⟩
            · refine ⟨(fun g b h => by cases h), fun l w' hl hdp hJ hg ρ h1 h2 h3 h4 h5 => ?_⟩
              have HJ := hid hJ
              clear hJ
              have f27 : ρ (.tmp 27) = .int .i64 0 := h5 27 (by kernel_rfl)
              clear h4 h5 hg
              unfold OpY
              go_simp
              first | exact ⟨rfl, HJ.out.put (i := 0) (by decide) (by decide) (fun e => absurd e (by decide))⟩ | exact ⟨Or.inr rfl, HJ.out.put (i := 0) (by decide) (by decide) (fun e => absurd e (by decide))⟩
            · refine ⟨(fun g b h => by cases h), fun l w' hl hdp hJ hg ρ h1 h2 h3 h4 h5 => ?_⟩
              have HJ := hid hJ
              clear hJ
              have f167 : ρ (.tmp 167) = .int .i64 0 := h4 0 167 (by kernel_rfl) (by kernel_rfl)
              clear h4 h5 hg
              unfold OpY
              go_simp
              first | exact ⟨rfl, HJ.out.put (i := 1) (by decide) (by decide) (fun e => absurd e (by decide))⟩ | exact ⟨Or.inr rfl, HJ.out.put (i := 1) (by decide) (by decide) (fun e => absurd e (by decide))⟩
            · refine ⟨(fun g b h => by cases h), fun l w' hl hdp hJ hg ρ h1 h2 h3 h4 h5 => ?_⟩
              have HJ := hid hJ
              clear hJ
              have f168 : ρ (.tmp 168) = .bool true := h4 1 168 (by kernel_rfl) (by kernel_rfl)
              clear h4 h5 hg
              unfold OpY
              go_simp
              first | exact ⟨rfl, HJ.out.put (i := 2) (by decide) (by decide) (fun e => absurd e (by decide))⟩ | exact ⟨Or.inr rfl, HJ.out.put (i := 2) (by decide) (by decide) (fun e => absurd e (by decide))⟩
            · refine ⟨(fun g b h => by
                obtain ⟨rfl, rfl⟩ := Prod.mk.inj (Option.some.inj h)
                exact ⟨true, rfl, fun h => absurd rfl h⟩), fun l w' hl hdp hJ hg ρ h1 h2 h3 h4 h5 => ?_⟩
              have HJ := hid hJ
              clear hJ
              have f29 : ρ (.tmp 29) = .int .i64 0 := h5 29 (by kernel_rfl)
              clear h4 h5 hg
              unfold OpY
              go_simp
              first | exact ⟨rfl, HJ.out.put (i := 3) (by decide) (by decide) (fun e => absurd e (by decide))⟩ | exact ⟨Or.inr rfl, HJ.out.put (i := 3) (by decide) (by decide) (fun e => absurd e (by decide))⟩
            · refine ⟨(fun g b h => by
                obtain ⟨rfl, rfl⟩ := Prod.mk.inj (Option.some.inj h)
                exact ⟨true, rfl, fun h => absurd rfl h⟩), fun l w' hl hdp hJ hg ρ h1 h2 h3 h4 h5 => ?_⟩
              have HJ := hid hJ
              clear hJ
              have f170 : ρ (.tmp 170) = .int .i64 0 := h4 3 170 (by kernel_rfl) (by kernel_rfl)
              clear h4 h5 hg
              unfold OpY
              go_simp
              first | exact ⟨rfl, HJ.out.put (i := 4) (by decide) (by decide) (fun e => absurd e (by decide))⟩ | exact ⟨Or.inr rfl, HJ.out.put (i := 4) (by decide) (by decide) (fun e => absurd e (by decide))⟩
            · refine ⟨(fun g b h => by cases h), fun l w' hl hdp hJ hg ρ h1 h2 h3 h4 h5 => ?_⟩
              have HJ := hid hJ
              clear hJ
              have f169 : ρ (.tmp 169) = .bool true := h4 2 169 (by kernel_rfl) (by kernel_rfl)
              have f171 : ρ (.tmp 171) = .bool true := h4 4 171 (by kernel_rfl) (by kernel_rfl)
              clear h4 h5 hg
              unfold OpY
              go_simp
              first | exact ⟨rfl, HJ.out.put (i := 5) (by decide) (by decide) (fun e => absurd e (by decide))⟩ | exact ⟨Or.inr rfl, HJ.out.put (i := 5) (by decide) (by decide) (fun e => absurd e (by decide))⟩
            · refine ⟨(fun g b h => by cases h), fun l w' hl hdp hJ hg ρ h1 h2 h3 h4 h5 => ?_⟩
              have HJ := hid hJ
              clear hJ
              have f172 : ρ (.tmp 172) = .bool true := h4 5 172 (by kernel_rfl) (by kernel_rfl)
              clear h4 h5 hg
              unfold OpY
              go_simp
              first | exact ⟨rfl, HJ.out.put (i := 6) (by decide) (by decide) (fun e => absurd e (by decide))⟩ | exact ⟨Or.inr rfl, HJ.out.put (i := 6) (by decide) (by decide) (fun e => absurd e (by decide))⟩
            · refine ⟨(fun g b h => by
                obtain ⟨rfl, rfl⟩ := Prod.mk.inj (Option.some.inj h)
                exact ⟨true, rfl, fun h => absurd rfl h⟩), fun l w' hl hdp hJ hg ρ h1 h2 h3 h4 h5 => ?_⟩
              have HJ := hid hJ
              clear hJ
              have f11 : ρ (.tmp 11) = .pointer (some ⟨C, 0, none⟩) := h5 11 (by kernel_rfl)
              clear h4 h5 hg
              unfold OpY
              go_simp
              first | exact ⟨rfl, HJ.out.put (i := 7) (by decide) (by decide) (fun e => absurd e (by decide))⟩ | exact ⟨Or.inr rfl, HJ.out.put (i := 7) (by decide) (by decide) (fun e => absurd e (by decide))⟩
            · refine ⟨(fun g b h => by
                obtain ⟨rfl, rfl⟩ := Prod.mk.inj (Option.some.inj h)
                exact ⟨true, rfl, fun h => absurd rfl h⟩), fun l w' hl hdp hJ hg ρ h1 h2 h3 h4 h5 => ?_⟩
              have HJ := hid hJ
              clear hJ
              have f26 : ρ (.tmp 26) = .pointer (some ⟨ub, 0, none⟩) := h5 26 (by kernel_rfl)
              clear h4 h5 hg
              unfold OpY
              go_simp
              first | exact ⟨rfl, HJ.out.put (i := 8) (by decide) (by decide) (fun e => absurd e (by decide))⟩ | exact ⟨Or.inr rfl, HJ.out.put (i := 8) (by decide) (by decide) (fun e => absurd e (by decide))⟩
            · refine ⟨(fun g b h => by
                obtain ⟨rfl, rfl⟩ := Prod.mk.inj (Option.some.inj h)
                exact ⟨true, rfl, fun h => absurd rfl h⟩), fun l w' hl hdp hJ hg ρ h1 h2 h3 h4 h5 => ?_⟩
              have HJ := hid hJ
              clear hJ
              have f9 : ρ (.tmp 9) = .pointer (some ⟨M, 0, none⟩) := h5 9 (by kernel_rfl)
              have hm : Blk w' M (evC me) 33 := HJ.out.all HM0.out HMM1.out HM2.out
              have c0 := hm.cell 0 (v := .int .u8 me.kind) rfl
              have c1 := hm.cell 1 (v := .int .i64 me.th) rfl
              have c2 := hm.cell 2 (v := .int .i64 me.tx) rfl
              have c3 := hm.cell 3 (v := .int .i64 me.at_) rfl
              have c4 := hm.cell 4 (v := .int .i64 me.v) rfl
              have c5 := hm.cell 5 (v := .int .i64 me.x) rfl
              have c6 := hm.cell 6 (v := .int .u8 me.why) rfl
              clear hm
              clear h4 h5 hg
              unfold OpY
              go_simp
              first | exact ⟨rfl, HJ.out.put (i := 9) (by decide) (by decide) (fun e => absurd e (by decide))⟩ | exact ⟨Or.inr rfl, HJ.out.put (i := 9) (by decide) (by decide) (fun e => absurd e (by decide))⟩
            · refine ⟨(fun g b h => by
                obtain ⟨rfl, rfl⟩ := Prod.mk.inj (Option.some.inj h)
                exact ⟨true, rfl, fun h => absurd rfl h⟩), fun l w' hl hdp hJ hg ρ h1 h2 h3 h4 h5 => ?_⟩
              have HJ := hid hJ
              clear hJ
              have f174 : ρ (.tmp 174) = .pointer (some ⟨C, 0, none⟩) := h4 7 174 (by kernel_rfl) (by kernel_rfl)
              have f175 : ρ (.tmp 175) = .pointer (some ⟨ub, 0, none⟩) := h4 8 175 (by kernel_rfl) (by kernel_rfl)
              have f176 : ρ (.tmp 176) = evA me := h4 9 176 (by kernel_rfl) (by kernel_rfl)
              have h0 := HJ.out.s0 hl
              have HW := hid (HC0.out w' h0)
              clear h0 h4 h5 hg
              unfold OpY
              go_simp
              unfold OpR
              refine HW.out.mono ?_
              rintro e' w'' ⟨rfl, hs1⟩
              first | exact ⟨_, rfl, rfl, HJ.out.first hl (by decide) (by decide) hs1⟩ | exact ⟨_, rfl, Or.inr rfl, HJ.out.first hl (by decide) (by decide) hs1⟩
            · refine ⟨(fun g b h => by
                obtain ⟨rfl, rfl⟩ := Prod.mk.inj (Option.some.inj h)
                exact ⟨true, rfl, fun h => absurd rfl h⟩), fun l w' hl hdp hJ hg ρ h1 h2 h3 h4 h5 => ?_⟩
              have HJ := hid hJ
              clear hJ
              have f13 : ρ (.tmp 13) = .pointer (some ⟨D, 0, none⟩) := h5 13 (by kernel_rfl)
              clear h4 h5 hg
              unfold OpY
              go_simp
              first | exact ⟨rfl, HJ.out.put (i := 11) (by decide) (by decide) (fun e => absurd e (by decide))⟩ | exact ⟨Or.inr rfl, HJ.out.put (i := 11) (by decide) (by decide) (fun e => absurd e (by decide))⟩
            · refine ⟨(fun g b h => by
                obtain ⟨rfl, rfl⟩ := Prod.mk.inj (Option.some.inj h)
                exact ⟨true, rfl, fun h => absurd rfl h⟩), fun l w' hl hdp hJ hg ρ h1 h2 h3 h4 h5 => ?_⟩
              have HJ := hid hJ
              clear hJ
              have f28 : ρ (.tmp 28) = .pointer (some ⟨vb, 0, none⟩) := h5 28 (by kernel_rfl)
              clear h4 h5 hg
              unfold OpY
              go_simp
              first | exact ⟨rfl, HJ.out.put (i := 12) (by decide) (by decide) (fun e => absurd e (by decide))⟩ | exact ⟨Or.inr rfl, HJ.out.put (i := 12) (by decide) (by decide) (fun e => absurd e (by decide))⟩
            · refine ⟨(fun g b h => by
                obtain ⟨rfl, rfl⟩ := Prod.mk.inj (Option.some.inj h)
                exact ⟨true, rfl, fun h => absurd rfl h⟩), fun l w' hl hdp hJ hg ρ h1 h2 h3 h4 h5 => ?_⟩
              have HJ := hid hJ
              clear hJ
              have f9 : ρ (.tmp 9) = .pointer (some ⟨M, 0, none⟩) := h5 9 (by kernel_rfl)
              have hm : Blk w' M (evC me) 33 := HJ.out.all HM0.out HMM1.out HM2.out
              have c0 := hm.cell 0 (v := .int .u8 me.kind) rfl
              have c1 := hm.cell 1 (v := .int .i64 me.th) rfl
              have c2 := hm.cell 2 (v := .int .i64 me.tx) rfl
              have c3 := hm.cell 3 (v := .int .i64 me.at_) rfl
              have c4 := hm.cell 4 (v := .int .i64 me.v) rfl
              have c5 := hm.cell 5 (v := .int .i64 me.x) rfl
              have c6 := hm.cell 6 (v := .int .u8 me.why) rfl
              clear hm
              clear h4 h5 hg
              unfold OpY
              go_simp
              first | exact ⟨rfl, HJ.out.put (i := 13) (by decide) (by decide) (fun e => absurd e (by decide))⟩ | exact ⟨Or.inr rfl, HJ.out.put (i := 13) (by decide) (by decide) (fun e => absurd e (by decide))⟩
            · refine ⟨(fun g b h => by
                obtain ⟨rfl, rfl⟩ := Prod.mk.inj (Option.some.inj h)
                exact ⟨true, rfl, fun h => absurd rfl h⟩), fun l w' hl hdp hJ hg ρ h1 h2 h3 h4 h5 => ?_⟩
              have HJ := hid hJ
              clear hJ
              have f178 : ρ (.tmp 178) = .pointer (some ⟨D, 0, none⟩) := h4 11 178 (by kernel_rfl) (by kernel_rfl)
              have f179 : ρ (.tmp 179) = .pointer (some ⟨vb, 0, none⟩) := h4 12 179 (by kernel_rfl) (by kernel_rfl)
              have f180 : ρ (.tmp 180) = evA me := h4 13 180 (by kernel_rfl) (by kernel_rfl)
              have hp := hdp 10 (by kernel_rfl)
              have h0 := HJ.out.s1 hp hl
              have HW := hid (HC1'.out w' h0)
              clear h0 h4 h5 hg
              unfold OpY
              go_simp
              unfold OpR
              refine HW.out.mono ?_
              rintro e' w'' ⟨rfl, hs1⟩
              first | exact ⟨_, rfl, rfl, HJ.out.second hl hp (by decide) hs1⟩ | exact ⟨_, rfl, Or.inr rfl, HJ.out.second hl hp (by decide) hs1⟩
            · refine ⟨(fun g b h => by
                obtain ⟨rfl, rfl⟩ := Prod.mk.inj (Option.some.inj h)
                exact ⟨true, rfl, fun h => absurd rfl h⟩), fun l w' hl hdp hJ hg ρ h1 h2 h3 h4 h5 => ?_⟩
              have HJ := hid hJ
              clear hJ
              have f177 : ρ (.tmp 177) = .int .i64 r := h4 10 177 (by kernel_rfl) (by kernel_rfl)
              have f181 : ρ (.tmp 181) = .int .i64 r := h4 14 181 (by kernel_rfl) (by kernel_rfl)
              clear h4 h5 hg
              unfold OpY
              go_simp
              first | exact ⟨rfl, HJ.out.put (i := 15) (by decide) (by decide) (fun e => absurd e (by decide))⟩ | exact ⟨Or.inr rfl, HJ.out.put (i := 15) (by decide) (by decide) (fun e => absurd e (by decide))⟩
            · refine ⟨(fun g b h => by cases h), fun l w' hl hdp hJ hg ρ h1 h2 h3 h4 h5 => ?_⟩
              have HJ := hid hJ
              clear hJ
              have f173 : ρ (.tmp 173) = .bool true := h4 6 173 (by kernel_rfl) (by kernel_rfl)
              have f182 : ρ (.tmp 182) = .bool true := h4 15 182 (by kernel_rfl) (by kernel_rfl)
              clear h4 h5 hg
              unfold OpY
              go_simp
              first | exact ⟨rfl, HJ.out.put (i := 16) (by decide) (by decide) (fun e => absurd e (by decide))⟩ | exact ⟨Or.inr rfl, HJ.out.put (i := 16) (by decide) (by decide) (fun e => absurd e (by decide))⟩
            · refine ⟨(fun g b h => by cases h), fun l w' hl hdp hJ hg ρ h1 h2 h3 h4 h5 => ?_⟩
              have HJ := hid hJ
              clear hJ
              have f183 : ρ (.tmp 183) = .bool true := h4 16 183 (by kernel_rfl) (by kernel_rfl)
              clear h4 h5 hg
              unfold OpY
              go_simp
              first | exact ⟨rfl, HJ.out.put (i := 17) (by decide) (by decide) (fun _ => hdp 14 (by kernel_rfl))⟩ | exact ⟨Or.inr rfl, HJ.out.put (i := 17) (by decide) (by decide) (fun _ => hdp 14 (by kernel_rfl))⟩
            · refine ⟨(fun g b h => by
                obtain ⟨rfl, rfl⟩ := Prod.mk.inj (Option.some.inj h)
                exact ⟨true, rfl, fun h => absurd rfl h⟩), fun l w' hl hdp hJ hg ρ h1 h2 h3 h4 h5 => ?_⟩
              have HJ := hid hJ
              clear hJ
              have f26 : ρ (.tmp 26) = .pointer (some ⟨ub, 0, none⟩) := h5 26 (by kernel_rfl)
              clear h4 h5 hg
              unfold OpY
              go_simp
              first | exact ⟨rfl, HJ.out.put (i := 18) (by decide) (by decide) (fun e => absurd e (by decide))⟩ | exact ⟨Or.inr rfl, HJ.out.put (i := 18) (by decide) (by decide) (fun e => absurd e (by decide))⟩
            · refine ⟨(fun g b h => by
                obtain ⟨rfl, rfl⟩ := Prod.mk.inj (Option.some.inj h)
                exact ⟨true, rfl, fun h => absurd rfl h⟩), fun l w' hl hdp hJ hg ρ h1 h2 h3 h4 h5 => ?_⟩
              have HJ := hid hJ
              clear hJ
              have f185 : ρ (.tmp 185) = .pointer (some ⟨ub, 0, none⟩) := h4 18 185 (by kernel_rfl) (by kernel_rfl)
              have HW := hid (HX.out w' (HJ.out.s2 (HJ.out.o2 (hdp 17 (by kernel_rfl)))))
              clear h4 h5 hg
              unfold OpY
              go_simp
              unfold OpR
              refine HW.out.mono ?_
              rintro e' w'' ⟨rfl, rfl⟩
              first | exact ⟨_, rfl, rfl, HJ.out.put (i := 19) (by decide) (by decide) (fun e => absurd e (by decide))⟩ | exact ⟨_, rfl, Or.inr rfl, HJ.out.put (i := 19) (by decide) (by decide) (fun e => absurd e (by decide))⟩
            · refine ⟨(fun g b h => by
                obtain ⟨rfl, rfl⟩ := Prod.mk.inj (Option.some.inj h)
                exact ⟨true, rfl, fun h => absurd rfl h⟩), fun l w' hl hdp hJ hg ρ h1 h2 h3 h4 h5 => ?_⟩
              have HJ := hid hJ
              clear hJ
              have f28 : ρ (.tmp 28) = .pointer (some ⟨vb, 0, none⟩) := h5 28 (by kernel_rfl)
              clear h4 h5 hg
              unfold OpY
              go_simp
              first | exact ⟨rfl, HJ.out.put (i := 20) (by decide) (by decide) (fun e => absurd e (by decide))⟩ | exact ⟨Or.inr rfl, HJ.out.put (i := 20) (by decide) (by decide) (fun e => absurd e (by decide))⟩
            · refine ⟨(fun g b h => by
                obtain ⟨rfl, rfl⟩ := Prod.mk.inj (Option.some.inj h)
                exact ⟨true, rfl, fun h => absurd rfl h⟩), fun l w' hl hdp hJ hg ρ h1 h2 h3 h4 h5 => ?_⟩
              have HJ := hid hJ
              clear hJ
              have f187 : ρ (.tmp 187) = .pointer (some ⟨vb, 0, none⟩) := h4 20 187 (by kernel_rfl) (by kernel_rfl)
              have HW := hid (HY.out w' (HJ.out.s2 (HJ.out.o2 (hdp 17 (by kernel_rfl)))))
              clear h4 h5 hg
              unfold OpY
              go_simp
              unfold OpR
              refine HW.out.mono ?_
              rintro e' w'' ⟨rfl, rfl⟩
              first | exact ⟨_, rfl, rfl, HJ.out.put (i := 21) (by decide) (by decide) (fun e => absurd e (by decide))⟩ | exact ⟨_, rfl, Or.inr rfl, HJ.out.put (i := 21) (by decide) (by decide) (fun e => absurd e (by decide))⟩
            · refine ⟨(fun g b h => by
                obtain ⟨rfl, rfl⟩ := Prod.mk.inj (Option.some.inj h)
                exact ⟨true, rfl, fun h => absurd rfl h⟩), fun l w' hl hdp hJ hg ρ h1 h2 h3 h4 h5 => ?_⟩
              have HJ := hid hJ
              clear hJ
              have f186 : ρ (.tmp 186) = .string txt := h4 19 186 (by kernel_rfl) (by kernel_rfl)
              have f188 : ρ (.tmp 188) = .string txt := h4 21 188 (by kernel_rfl) (by kernel_rfl)
              clear h4 h5 hg
              unfold OpY
              go_simp
              first | exact ⟨rfl, HJ.out.put (i := 22) (by decide) (by decide) (fun e => absurd e (by decide))⟩ | exact ⟨Or.inr rfl, HJ.out.put (i := 22) (by decide) (by decide) (fun e => absurd e (by decide))⟩
            · refine ⟨(fun g b h => by cases h), fun l w' hl hdp hJ hg ρ h1 h2 h3 h4 h5 => ?_⟩
              have HJ := hid hJ
              clear hJ
              have f184 : ρ (.tmp 184) = .bool true := h4 17 184 (by kernel_rfl) (by kernel_rfl)
              have f189 : ρ (.tmp 189) = .bool true := h4 22 189 (by kernel_rfl) (by kernel_rfl)
              clear h4 h5 hg
              unfold OpY
              go_simp
              first | exact ⟨rfl, HJ.out.put (i := 23) (by decide) (by decide) (fun e => absurd e (by decide))⟩ | exact ⟨Or.inr rfl, HJ.out.put (i := 23) (by decide) (by decide) (fun e => absurd e (by decide))⟩
            · refine ⟨(fun g b h => by cases h), fun l w' hl hdp hJ hg ρ h1 h2 h3 h4 h5 => ?_⟩
              have HJ := hid hJ
              clear hJ
              have f190 : ρ (.tmp 190) = .bool true := h4 23 190 (by kernel_rfl) (by kernel_rfl)
              clear h4 h5 hg
              unfold OpY
              go_simp
              first | exact ⟨rfl, HJ.out.put (i := 24) (by decide) (by decide) (fun e => absurd e (by decide))⟩ | exact ⟨Or.inr rfl, HJ.out.put (i := 24) (by decide) (by decide) (fun e => absurd e (by decide))⟩
          case hdone =>
            intro w' hJ
            have HJ := hid (hJ.s2 rfl)
            clear hJ
            go_wp2_with fail
            rw [HQ.out]
            exact ⟨rfl, HE2.out _ HJ.out⟩
theorem deltaBack_any (T V S : Int) (a : Option Addr) (l : List Ev) (cap : Nat) (me : Ev) (W : World) (hE : EvsAt W a l) (hKd : KindsAt W) (hme : EvOk me) : Calls Tryd.prog 8 #[.int .i64 T, .int .i64 V, .int .i64 S, .slice a l.length cap, evA me] W fun e' W' => e' = .returned (.bool true) ∧ Below W.heap.size W W' := by
  by_cases hl : l.length ≤ 400
  · cases hz : sizesB T V S with
    | true => exact dback_ok T V S a l cap me W hE hKd hl hme hz
    | false => exact dback_bad T V S a _ cap me W hKd hl hz
  · exact dback_great T V S a _ cap me W hKd (by omega)
end Go.Proofs.YtokkafiphchejaaDoor

