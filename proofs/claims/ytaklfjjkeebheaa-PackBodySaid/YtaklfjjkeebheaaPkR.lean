/-
  Walks: back, works; and the statement PackBody.
-/
import Derived.Test.YtaklfjjkeebheaaPkN
namespace Go.Proofs.Ytaklfjjkeebheaa
set_option linter.unusedVariables false
set_option linter.unusedSimpArgs false
set_option linter.unusedVariables false
open Go Go.RowKit
theorem bareP : setupL ⟨[1, 10, 1, 0, 1, 0], 0, 0⟩ = (bareS, ⟨[1, 10, 1, 0, 1, 0], 6, 0⟩) := by kernel_rfl
theorem bareE : (endR ⟨[1, 10, 1, 0, 1, 0], 6, 0⟩).err = 0 := by decide +kernel
theorem bare_good : EncOk bareS where
  good := ⟨⟨by simp [bareS], by simp [bareS], by simp [bareS], by simp [bareS], by simp [bareS]⟩, fun th h => by cases h⟩
  ok := fun th h => by cases h
  kd := fun th h => by cases h
  fit := by rw [bareB]; decide
/-- The bare setup's frame. -/
def bareF : ByteArray := bstr (frameL [1, 10, 1, 0, 1, 0])
theorem bare_lt : ∀ c ∈ [1, 10, 1, 0, 1, 0], c < 256 := by decide
theorem bareF_byt : byt bareF = frameL [1, 10, 1, 0, 1, 0] := byt_bstr (frameL_lt bare_lt)
theorem bareF_size : bareF.size = 11 := by rw [← byt_len, bareF_byt]; decide +kernel
theorem bareW : wrapL (setupB bareS) = (frameL [1, 10, 1, 0, 1, 0], 0) := by rw [bareB]; exact (unwrap_wrap (by decide) bare_lt).1
theorem enc_bare (g : Nat) (w : World) (hg : Blk w g #[.int .i64 5] 2) : Calls Try.prog 7 #[.agg #[.int .i64 1, .int .i64 0, .int .i64 1, .slice (some ⟨g, 0, none⟩) 1 1, .slice none 0 0]] w fun e w' => e = .returned (.tuple #[.string bareF, .int .i64 0]) ∧ Below w.heap.size w w' := by
  have h := enc_ok bareS (.slice (some ⟨g, 0, none⟩) 1 1) (.slice none 0 0) w ⟨some ⟨g, 0, none⟩, 1, rfl, by decide, fun _ => ⟨g, 0, rfl, ⟨⟨_, hg.cell 0 (v := .int .i64 5) rfl, rfl, by decide, by decide⟩, trivial⟩⟩⟩ (rdThs_nil w) bare_good
  unfold EncP at h
  rw [bareW] at h
  exact h
theorem dec_bare (w : World) : Calls Try.prog 6 #[.string bareF] w fun e w' => (∃ q off c p c', e = .returned (.tuple #[.agg #[.int .i64 1, .int .i64 0, .int .i64 1, .slice (some ⟨q, off, none⟩) 1 c, .slice p 0 c'], .int .i64 0, .int .i64 0]) ∧ w'.cell? ⟨q, off, none⟩ = some (.int .i64 5)) ∧ Below w.heap.size w w' := by
  have hu : unwrapL (byt bareF) = ([1, 10, 1, 0, 1, 0], 0, 0) := by rw [bareF_byt]; exact (unwrap_wrap (by decide) bare_lt).2
  refine (dec_any bareF [1, 10, 1, 0, 1, 0] w (by rw [bareF_size]; omega) hu (by rw [bareF_size]; decide)).mono ?_
  rintro e w' ⟨hb, h⟩
  rw [bareP] at h
  refine ⟨?_, hb⟩
  rcases h with ⟨h, -⟩ | ⟨-, h, -⟩ | ⟨-, -, vi, vt, rfl, hi, ht⟩
  · exact absurd bareE h
  · exact absurd bare_good.good h
  · obtain ⟨pi, ci, rfl, -, hx⟩ := hi
    obtain ⟨pt, ct, rfl, -, -⟩ := ht
    obtain ⟨q, off, rfl, ⟨v, hc, hv, -, -⟩, -⟩ := hx (by simp [bareS])
    subst hv
    exact ⟨q, off, ci, pt, ct, rfl, hc⟩
set_option maxRecDepth 100000 in
set_option maxHeartbeats 4000000 in
theorem back_bare (g : Nat) (w : World) (hg : Blk w g #[.int .i64 5] 2) : Calls Try.prog 9 #[.agg #[.int .i64 1, .int .i64 0, .int .i64 1, .slice (some ⟨g, 0, none⟩) 1 1, .slice none 0 0]] w fun e w' => e = .returned (.bool true) ∧ Below w.heap.size w w' := by
  obtain ⟨W1, hW1⟩ : ∃ W1, W1 = w.alloc (.cells #[.int .i64 1, .int .i64 0, .int .i64 1, .slice (some ⟨g, 0, none⟩) 1 1, .slice none 0 0] 27) := ⟨_, rfl⟩
  have hb1 : Below w.heap.size w W1 := by rw [hW1]; exact ext_alloc (ext_refl _) _
  have hx : Blk W1 w.heap.size #[.int .i64 1, .int .i64 0, .int .i64 1, .slice (some ⟨g, 0, none⟩) 1 1, .slice none 0 0] 27 := by rw [hW1]; exact Blk.new _ _ _
  have HE := hid (enc_bare g W1 (hg.below hb1))
  have HX := hid hx
  have HG := hid (hg.below hb1)
  have HB1 := hid hb1
  have HW1 := hid hW1
  have HD := hid dec_bare
  generalize bareF = F at *
  clear hg hb1 hx hW1
  go_enter Try.func9, Try.ntmps9
  go_wp2_with fail
  rw [← HW1.out]
  refine HE.out.mono ?_
  rintro e' w2 ⟨rfl, hb2⟩
  have HX2 := hid (HX.out.below hb2)
  have HG2 := hid (HG.out.below hb2)
  have HB2 := hid (ext_trans HB1.out hb2)
  clear hb2 HE HW1
  go_wp2_with fail
  refine (HD.out w2).mono ?_
  rintro e' w3 ⟨⟨q, off, c, p, c', rfl, hc⟩, hb3⟩
  obtain ⟨W4, hW4⟩ : ∃ W4, W4 = w3.alloc (.cells #[.int .i64 1, .int .i64 0, .int .i64 1, .slice (some ⟨q, off, none⟩) 1 c, .slice p 0 c'] 27) := ⟨_, rfl⟩
  have hb4 : Below w3.heap.size w3 W4 := by rw [hW4]; exact ext_alloc (ext_refl _) _
  have hx4 := (HX2.out.below hb3).below hb4
  have HS := hid (same_bare g 0 1 q off c 0 c' none p W4 (((HG2.out.below hb3).below hb4).cell 0 rfl) (later hb4 hc))
  have t0 := hx4.cell 0 (v := .int .i64 1) rfl
  have t1 := hx4.cell 1 (v := .int .i64 0) rfl
  have t2 := hx4.cell 2 (v := .int .i64 1) rfl
  have t3 := hx4.cell 3 (v := .slice (some ⟨g, 0, none⟩) 1 1) rfl
  have t4 := hx4.cell 4 (v := .slice none 0 0) rfl
  rw [hW4] at t0 t1 t2 t3 t4
  have HB4 := hid (ext_trans (ext_trans HB2.out hb3) hb4)
  have HW4 := hid hW4
  clear hb3 hb4 hx4 hc hW4
  go_wp2_with fail
  rw [← HW4.out]
  refine HS.out.mono ?_
  rintro e' w5 ⟨rfl, hb5⟩
  have HB5 := hid (ext_trans HB4.out hb5)
  clear hb5 t0 t1 t2 t3 t4
  go_wp2_with fail
  go_ret
  exact ⟨rfl, HB5.out⟩
set_option maxRecDepth 100000 in
set_option maxHeartbeats 4000000 in
theorem works_any (w : World) : Calls Try.prog 4 #[] w fun e w' => e = .returned (.bool true) ∧ Below w.heap.size w w' := by
  have HBA := hid bare_any
  have HE := hid enc_bare
  have HBK := hid back_bare
  have hfr : ∀ (s : ByteArray) (w : World), byt s = [1, 10, 1, 0, 1, 0] → Calls Try.prog 5 #[.string s] w fun e w' => e = .returned (.string bareF) ∧ Below w.heap.size w w' := fun s w h => by
    have := framed_any s w (by rw [← byt_len, h]; decide)
    rw [h] at this
    exact this
  have HF := hid hfr
  clear hfr
  generalize bareF = F at *
  go_enter Try.func4, Try.ntmps4
  go_wp2_with fail
  refine (HBA.out w).mono ?_
  rintro e' w1 ⟨⟨g, rfl, hg⟩, hb1⟩
  have HG := hid hg
  have HB1 := hid hb1
  clear hg hb1
  go_wp2_with fail
  refine (HE.out g w1 HG.out).mono ?_
  rintro e' w2 ⟨rfl, hb2⟩
  have HB2 := hid (ext_trans HB1.out hb2)
  clear hb2
  go_wp2_with fail
  refine (HF.out _ w2 (by decide)).mono ?_
  rintro e' w3 ⟨rfl, hb3⟩
  have HB3 := hid (ext_trans HB2.out hb3)
  clear hb3
  go_wp2_with fail
  refine (HBA.out w3).mono ?_
  rintro e' w4 ⟨⟨g4, rfl, hg4⟩, hb4⟩
  have HG4 := hid hg4
  have HB4 := hid (ext_trans HB3.out hb4)
  clear hg4 hb4
  go_wp2_with fail
  refine (HBK.out g4 w4 HG4.out).mono ?_
  rintro e' w5 ⟨rfl, hb5⟩
  have HB5 := hid (ext_trans HB4.out hb5)
  clear hb5
  go_wp2_with fail
  go_ret
  exact ⟨rfl, HB5.out⟩
theorem frame_head (b : ByteArray) (hb : b.size ≤ 30000) : (bstr (frameL (byt b))).size = (putN b.size).length + b.size + 4 ∧ 1 ≤ (putN b.size).length ∧ (putN b.size).length ≤ 10 := by
  refine ⟨?_, putN_some _, putN_ten _⟩
  rw [← byt_len, byt_frame, frameL_len, byt_len]
/-- What Decode of a frame tells of the statement's asking. -/
theorem dec_said (b : ByteArray) (hb : b.size ≤ 30000) (w : World) : Calls Try.prog 6 #[.string (bstr (frameL (byt b)))] w fun e w' => Below w.heap.size w w' ∧
    ((∃ (n : Int) (f : Nat), e = .returned (.tuple #[suZ, .int .i64 n, .int .i64 (f : Int)]) ∧ f ≠ 0 ∧ f ≠ 9 ∧ (putN b.size).length ≤ n ∧ n ≤ (putN b.size).length + b.size) ∨
     (∃ x vi vt, e = .returned (.tuple #[.agg #[.int .i64 x.st, .int .i64 x.ck, .int .i64 x.tr, vi, vt], .int .i64 0, .int .i64 0]) ∧ RdSl RdI w' x.init vi ∧ RdThs w' x.ths vt ∧ EncOk x ∧ setupB x = byt b)) := by
  have hu : unwrapL (byt (bstr (frameL (byt b)))) = (byt b, 0, 0) := by rw [byt_frame]; exact (unwrap_wrap (by rw [byt_len]; omega) (byt_lt b)).2
  obtain ⟨h1, h2, h3⟩ := frame_head b hb
  refine (dec_any _ (byt b) w (by omega) hu (by rw [byt_len]; omega)).mono ?_
  rintro e w' ⟨hbl, h⟩
  refine ⟨hbl, ?_⟩
  have hr : RdB ⟨byt b, 0, 0⟩ := ⟨byt_lt b, Nat.zero_le _⟩
  have hk := setupL_kept hr
  have hat := endR_kept (r := (setupL ⟨byt b, 0, 0⟩).2)
  have hpl := hk.at_
  dsimp only at hpl
  rw [byt_len] at hpl
  rcases h with ⟨he, rfl⟩ | ⟨he, hg, rfl⟩ | ⟨he, hg, vi, vt, rfl, hi, ht⟩
  · refine .inl ⟨_, _, rfl, he, ?_, ?_, ?_⟩
    · rcases hat.2.2.2 with e1 | e1
      · rw [e1]
        rcases hk.err with e2 | e2
        · rw [e2]; dsimp only; decide
        · intro e3; rw [e3] at e2; revert e2; decide
      · rw [e1]; decide
    · rw [h1, byt_len]; omega
    · rw [h1, byt_len, hat.2.1]; omega
  · refine .inl ⟨_, 4, rfl, by decide, by decide, ?_, ?_⟩
    · rw [h1, byt_len]; omega
    · rw [h1, byt_len]; omega
  · obtain ⟨o1, o2⟩ := dec_ok (byt_lt b) (by rw [byt_len]; omega) he
    have hl := dec_law (byt_lt b) he
    exact .inr ⟨_, vi, vt, rfl, hi, ht, ⟨hg, o1, o2, by rw [hl, byt_len]; omega⟩, hl⟩
set_option maxRecDepth 100000 in
set_option maxHeartbeats 4000000 in
theorem packBody_walk (b : ByteArray) (w : World) (hs : b.size ≤ 9223372036854775807) : Calls Try.prog 3 #[.string b] w fun e w' => e = .returned (.bool true) ∧ Below w.heap.size w w' := by
  have HWK := hid works_any
  by_cases hb : 30000 < b.size
  · have k1 : decide ((30000 : Int) < (b.size : Int)) = true := decide_eq_true (by omega)
    have k2 : decide (30000 < b.size) = true := decide_eq_true hb
    clear hb hs
    go_enter Try.func3, Try.ntmps3
    go_wp2_with fail
    refine (HWK.out w).mono ?_
    rintro e' w1 ⟨rfl, hb1⟩
    have HB1 := hid hb1
    clear hb1
    go_wp2_with fail
    refine (HWK.out w1).mono ?_
    rintro e' w2 ⟨rfl, hb2⟩
    have HB2 := hid (ext_trans HB1.out hb2)
    clear hb2
    go_wp2_with fail
    go_ret
    exact ⟨rfl, HB2.out⟩
  · have k1 : decide ((30000 : Int) < (b.size : Int)) = false := decide_eq_false (by omega)
    have k2 : decide (30000 < b.size) = false := decide_eq_false hb
    have hb' : b.size ≤ 30000 := by omega
    obtain ⟨h1, h2, h3⟩ := frame_head b hb'
    have HF := hid (fun w => framed_any b w hb')
    have HD := hid (dec_said b hb')
    have hwr : wrapL (byt b) = (frameL (byt b), 0) := (unwrap_wrap (by rw [byt_len]; omega) (byt_lt b)).1
    have HE := hid (fun (x : Su) (hx : setupB x = byt b) (vi vt : Value) (W : World) (hi : RdSl RdI W x.init vi) (ht : RdThs W x.ths vt) (ho : EncOk x) => by
      have := enc_ok x vi vt W hi ht ho
      unfold EncP at this
      rw [hx, hwr] at this
      exact this)
    clear hwr
    obtain ⟨F, hF⟩ : ∃ F, F = bstr (frameL (byt b)) := ⟨_, rfl⟩
    dsimp only at HE
    rw [← hF] at HF HD HE h1
    obtain ⟨hd, hhd⟩ : ∃ hd, hd = (putN b.size).length := ⟨_, rfl⟩
    rw [← hhd] at h1 h2 h3 HD
    have k3 : IntKind.i64.wrap ((F.size : Int) - (b.size : Int)) = (F.size : Int) - (b.size : Int) := IntWalk.i64_in _ (by omega)
    have k4 : IntKind.i64.wrap ((F.size : Int) - (b.size : Int) - 4) = (hd : Int) := by rw [IntWalk.i64_in _ (by omega)]; omega
    have k5 : IntKind.i64.wrap ((hd : Int) + (b.size : Int)) = (hd : Int) + (b.size : Int) := IntWalk.i64_in _ (by omega)
    clear hb hs hb' hF hhd h1 h2 h3
    go_enter Try.func3, Try.ntmps3
    go_wp2_with fail
    refine (HWK.out w).mono ?_
    rintro e' w1 ⟨rfl, hb1⟩
    have HB1 := hid hb1
    clear hb1
    go_wp2_with fail
    refine (HF.out w1).mono ?_
    rintro e' w2 ⟨rfl, hb2⟩
    have HB2 := hid (ext_trans HB1.out hb2)
    clear hb2
    go_wp2_with fail
    refine (HD.out w2).mono ?_
    rintro e' w3 ⟨hb3, h⟩
    have HB3 := hid (ext_trans HB2.out hb3)
    clear hb3
    rcases h with ⟨n, f, rfl, h0, h9, hl, hr⟩ | ⟨x, vi, vt, rfl, hi, ht, ho, hx⟩
    · have g1 : ((f : Int) != 0) = true := bne_iff_ne.2 (by omega)
      have g2 : (f != 0) = true := bne_iff_ne.2 h0
      have g3 : ((f : Int) != 9) = true := bne_iff_ne.2 (by omega)
      have g4 : (f != 9) = true := bne_iff_ne.2 h9
      have g5 : decide ((hd : Int) ≤ n) = true := decide_eq_true hl
      have g6 : decide (n ≤ (hd : Int) + (b.size : Int)) = true := decide_eq_true hr
      unfold suZ
      clear h0 h9 hl hr
      go_wp2_with fail
      go_ret
      exact ⟨rfl, ext_alloc HB3.out _⟩
    · have hi0 := hi
      have ht0 := ht
      obtain ⟨pi, ci, rfl, -, -⟩ := hi0
      obtain ⟨pt, ct, rfl, -, -⟩ := ht0
      have hb4 := ext_alloc (ext_refl w3) (.cells #[.int .i64 x.st, .int .i64 x.ck, .int .i64 x.tr, .slice pi x.init.length ci, .slice pt x.ths.length ct] 27)
      have HC := hid (HE.out x hx _ _ _ (RdSl.below (R := RdI) (fun _ _ _ _ hb h => RdI.below hb h) hb4 hi) (ht.below hb4) ho)
      have HB4 := hid (ext_trans HB3.out hb4)
      clear hi ht ho hx hb4
      go_wp2_with fail
      refine HC.out.mono ?_
      rintro e' w5 ⟨rfl, hb5⟩
      have HB5 := hid (ext_trans HB4.out hb5)
      clear hb5
      go_wp2_with fail
      go_ret
      exact ⟨rfl, HB5.out⟩
end Go.Proofs.Ytaklfjjkeebheaa
