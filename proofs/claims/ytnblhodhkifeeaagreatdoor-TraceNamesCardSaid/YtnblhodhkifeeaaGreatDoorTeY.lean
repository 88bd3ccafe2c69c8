/-
  Walks: no, TraceNames.
-/
import Derived.Test.YtnblhodhkifeeaaGreatDoorTrGZ
namespace Go.Proofs.YtnblhodhkifeeaaGreatDoor
set_option linter.unusedVariables false
set_option linter.unusedSimpArgs false
open Go Go.RowKit
set_option maxRecDepth 100000 in
set_option maxHeartbeats 4000000 in
theorem no_yes (b : ByteArray) (p e : Nat) (w : World) (hK : KindsAt w) (hT : TabOk w) (hb : b.size ≤ 1000) (he : 0 < e ∧ p ≤ 1000) (hr : ((bodyR (byt b)).2.at_, (bodyR (byt b)).2.err) = (p, e)) : Calls Tryz.prog 14 #[.string b, .int .i64 (p : Int), .int .i64 (e : Int)] w fun e' w' => e' = .returned (.bool true) ∧ Below w.heap.size w w' := by
  have HF := hid (fun w' => framed_any b w' (by omega))
  obtain ⟨f, hf⟩ : ∃ f, f = bstr (frameL (byt b)) := ⟨_, rfl⟩
  have hbf : byt f = frameL (byt b) := by rw [hf]; exact byt_frame b
  have hfl : f.size = (putN b.size).length + b.size + 4 := by rw [← byt_len, hbf, frameL_len, byt_len]
  have hpn := putN_ten b.size
  rw [← hf] at HF
  have HD := hid (fun w' (h : Below w.heap.size w w') => dec_any f w' (by omega) (hK.below h) (hT.below h))
  have hu : unwrapL (frameL (byt b)) = (byt b, 0, 0) := (unwrap_wrap (b := byt b) (by rw [byt_len]; omega) (byt_lt b)).2
  obtain ⟨tb, rb, hbr⟩ : ∃ tb rb, bodyR (byt b) = (tb, rb) := ⟨_, _, rfl⟩
  rw [hbr] at hr
  dsimp only at hr
  obtain ⟨h1, h2⟩ := Prod.mk.inj hr
  have hd := decL_bad hu hbr (by rw [h2]; omega)
  rw [h1, h2, ← hbf, byt_len, byt_len] at hd
  rw [hd] at HD
  unfold DecP at HD
  dsimp only [trA, Tr.zero] at HD
  obtain ⟨pn, hpn'⟩ : ∃ pn, pn = (putN b.size).length := ⟨_, rfl⟩
  rw [← hpn'] at hfl hpn
  obtain ⟨q, hq⟩ : ∃ q, q = f.size - b.size - 4 + p := ⟨_, rfl⟩
  rw [← hq] at HD
  have j1 : IntKind.i64.wrap ((f.size : Int) - (b.size : Int)) = (f.size : Int) - (b.size : Int) := IntWalk.i64_in _ (by omega)
  have j2 : IntKind.i64.wrap ((f.size : Int) - (b.size : Int) - 4) = (pn : Int) := by rw [IntWalk.i64_in _ (by omega)]; omega
  have j3 : IntKind.i64.wrap ((pn : Int) + (p : Int)) = (q : Int) := by rw [IntWalk.i64_in _ (by omega)]; omega
  obtain ⟨Q, hQ⟩ : ∃ Q : Ending → World → Prop, Q = fun e' w' => e' = .returned (.bool true) ∧ Below w.heap.size w w' := ⟨_, rfl⟩
  rw [← hQ]
  have HQ := hid hQ
  clear hK hT hb hQ hf hbf hfl hpn hpn' hq hd hr h1 h2 hbr hu he
  go_enter Tryz.func14, Tryz.ntmps14
  go_wp2_with fail
  refine (HF.out w).mono ?_
  rintro e' w2 ⟨rfl, hb2⟩
  have HDE := hid (HD.out w2 hb2)
  have HB2 := hid hb2
  clear hb2
  go_wp2_with fail
  refine HDE.out.mono ?_
  rintro e' w3 ⟨av, cv, rfl, hev, hb3⟩
  obtain ⟨W4, hW4⟩ : ∃ W4, W4 = w3.alloc (.cells #[.int .i64 0, .int .i64 0, .int .i64 0, .slice av 0 cv] 25) := ⟨_, rfl⟩
  have hb4 : Below w3.heap.size w3 W4 := by rw [hW4]; exact ext_alloc (ext_refl _) _
  have hx4 : Blk W4 w3.heap.size #[.int .i64 0, .int .i64 0, .int .i64 0, .slice av 0 cv] 25 := by rw [hW4]; exact Blk.new _ _ _
  have a0 := hx4.cell 0 (v := .int .i64 0) rfl
  have a1 := hx4.cell 1 (v := .int .i64 0) rfl
  have a2 := hx4.cell 2 (v := .int .i64 0) rfl
  have a3 := hx4.cell 3 (v := .slice av 0 cv) rfl
  have hB4 := ext_trans (ext_trans HB2.out hb3) hb4
  have HSM := hid (refSame_any 0 0 0 0 0 0 av none [] [] cv 0 W4 (hev.below hb4) (EvsAt.nil _) (by simp) (by simp))
  dsimp only [trA] at HSM
  have HB4 := hid hB4
  have HW4 := hid hW4
  clear hb3 hev hb4 hx4 hB4 hW4
  go_wp2_with (rw [← HW4.out]; go_simp)
  refine HSM.out.mono ?_
  rintro e' W5 ⟨⟨x, rfl, hx⟩, hb5⟩
  have hxt : x = true := hx.2 ⟨rfl, rfl, rfl, rfl⟩
  subst hxt
  go_wp2_with fail
  rw [HQ.out]
  exact ⟨by rfl, ext_trans HB4.out hb5⟩
theorem no_0 (w : World) (hK : KindsAt w) (hT : TabOk w) : Calls Tryz.prog 14 #[.string ⟨#[]⟩, .int .i64 0, .int .i64 8] w fun e' w' => e' = .returned (.bool true) ∧ Below w.heap.size w w' :=
  no_yes (⟨#[]⟩) 0 8 w hK hT (by decide) (by decide) (by decide +kernel)
theorem no_1 (w : World) (hK : KindsAt w) (hT : TabOk w) : Calls Tryz.prog 14 #[.string ⟨#[7]⟩, .int .i64 0, .int .i64 20] w fun e' w' => e' = .returned (.bool true) ∧ Below w.heap.size w w' :=
  no_yes (⟨#[7]⟩) 0 20 w hK hT (by decide) (by decide) (by decide +kernel)
theorem no_2 (w : World) (hK : KindsAt w) (hT : TabOk w) : Calls Tryz.prog 14 #[.string ⟨#[0, 0]⟩, .int .i64 1, .int .i64 20] w fun e' w' => e' = .returned (.bool true) ∧ Below w.heap.size w w' :=
  no_yes (⟨#[0, 0]⟩) 1 20 w hK hT (by decide) (by decide) (by decide +kernel)
theorem no_3 (w : World) (hK : KindsAt w) (hT : TabOk w) : Calls Tryz.prog 14 #[.string ⟨#[0, 33]⟩, .int .i64 1, .int .i64 20] w fun e' w' => e' = .returned (.bool true) ∧ Below w.heap.size w w' :=
  no_yes (⟨#[0, 33]⟩) 1 20 w hK hT (by decide) (by decide) (by decide +kernel)
theorem no_4 (w : World) (hK : KindsAt w) (hT : TabOk w) : Calls Tryz.prog 14 #[.string ⟨#[0, 2, 0]⟩, .int .i64 2, .int .i64 20] w fun e' w' => e' = .returned (.bool true) ∧ Below w.heap.size w w' :=
  no_yes (⟨#[0, 2, 0]⟩) 2 20 w hK hT (by decide) (by decide) (by decide +kernel)
theorem no_5 (w : World) (hK : KindsAt w) (hT : TabOk w) : Calls Tryz.prog 14 #[.string ⟨#[0, 2, 3]⟩, .int .i64 2, .int .i64 20] w fun e' w' => e' = .returned (.bool true) ∧ Below w.heap.size w w' :=
  no_yes (⟨#[0, 2, 3]⟩) 2 20 w hK hT (by decide) (by decide) (by decide +kernel)
theorem no_6 (w : World) (hK : KindsAt w) (hT : TabOk w) : Calls Tryz.prog 14 #[.string ⟨#[0, 1, 1, 1]⟩, .int .i64 3, .int .i64 20] w fun e' w' => e' = .returned (.bool true) ∧ Below w.heap.size w w' :=
  no_yes (⟨#[0, 1, 1, 1]⟩) 3 20 w hK hT (by decide) (by decide) (by decide +kernel)
theorem no_7 (w : World) (hK : KindsAt w) (hT : TabOk w) : Calls Tryz.prog 14 #[.string ⟨#[1, 1, 1]⟩, .int .i64 3, .int .i64 8] w fun e' w' => e' = .returned (.bool true) ∧ Below w.heap.size w w' :=
  no_yes (⟨#[1, 1, 1]⟩) 3 8 w hK hT (by decide) (by decide) (by decide +kernel)
theorem no_8 (w : World) (hK : KindsAt w) (hT : TabOk w) : Calls Tryz.prog 14 #[.string ⟨#[1, 1, 1, 129, 128, 64]⟩, .int .i64 3, .int .i64 20] w fun e' w' => e' = .returned (.bool true) ∧ Below w.heap.size w w' :=
  no_yes (⟨#[1, 1, 1, 129, 128, 64]⟩) 3 20 w hK hT (by decide) (by decide) (by decide +kernel)
theorem no_9 (w : World) (hK : KindsAt w) (hT : TabOk w) : Calls Tryz.prog 14 #[.string ⟨#[1, 1, 1, 0, 0]⟩, .int .i64 4, .int .i64 10] w fun e' w' => e' = .returned (.bool true) ∧ Below w.heap.size w w' :=
  no_yes (⟨#[1, 1, 1, 0, 0]⟩) 4 10 w hK hT (by decide) (by decide) (by decide +kernel)
theorem no_10 (w : World) (hK : KindsAt w) (hT : TabOk w) : Calls Tryz.prog 14 #[.string ⟨#[1, 1, 1, 1, 13]⟩, .int .i64 4, .int .i64 20] w fun e' w' => e' = .returned (.bool true) ∧ Below w.heap.size w w' :=
  no_yes (⟨#[1, 1, 1, 1, 13]⟩) 4 20 w hK hT (by decide) (by decide) (by decide +kernel)
theorem no_11 (w : World) (hK : KindsAt w) (hT : TabOk w) : Calls Tryz.prog 14 #[.string ⟨#[1, 1, 1, 1, 0, 6]⟩, .int .i64 5, .int .i64 20] w fun e' w' => e' = .returned (.bool true) ∧ Below w.heap.size w w' :=
  no_yes (⟨#[1, 1, 1, 1, 0, 6]⟩) 5 20 w hK hT (by decide) (by decide) (by decide +kernel)
theorem no_12 (w : World) (hK : KindsAt w) (hT : TabOk w) : Calls Tryz.prog 14 #[.string ⟨#[1, 1, 1, 1, 0, 1, 0]⟩, .int .i64 4, .int .i64 4] w fun e' w' => e' = .returned (.bool true) ∧ Below w.heap.size w w' :=
  no_yes (⟨#[1, 1, 1, 1, 0, 1, 0]⟩) 4 4 w hK hT (by decide) (by decide) (by decide +kernel)
theorem no_13 (w : World) (hK : KindsAt w) (hT : TabOk w) : Calls Tryz.prog 14 #[.string ⟨#[1, 1, 1, 1, 6, 0]⟩, .int .i64 4, .int .i64 4] w fun e' w' => e' = .returned (.bool true) ∧ Below w.heap.size w w' :=
  no_yes (⟨#[1, 1, 1, 1, 6, 0]⟩) 4 4 w hK hT (by decide) (by decide) (by decide +kernel)
theorem no_14 (w : World) (hK : KindsAt w) (hT : TabOk w) : Calls Tryz.prog 14 #[.string ⟨#[1, 1, 1, 2, 0, 0, 0]⟩, .int .i64 7, .int .i64 8] w fun e' w' => e' = .returned (.bool true) ∧ Below w.heap.size w w' :=
  no_yes (⟨#[1, 1, 1, 2, 0, 0, 0]⟩) 7 8 w hK hT (by decide) (by decide) (by decide +kernel)
theorem no_15 (w : World) (hK : KindsAt w) (hT : TabOk w) : Calls Tryz.prog 14 #[.string ⟨#[1, 1, 1, 1, 0, 128, 0]⟩, .int .i64 5, .int .i64 11] w fun e' w' => e' = .returned (.bool true) ∧ Below w.heap.size w w' :=
  no_yes (⟨#[1, 1, 1, 1, 0, 128, 0]⟩) 5 11 w hK hT (by decide) (by decide) (by decide +kernel)
theorem no_16 (w : World) (hK : KindsAt w) (hT : TabOk w) : Calls Tryz.prog 14 #[.string ⟨#[1, 1, 1, 1, 0, 0, 0, 0]⟩, .int .i64 7, .int .i64 10] w fun e' w' => e' = .returned (.bool true) ∧ Below w.heap.size w w' :=
  no_yes (⟨#[1, 1, 1, 1, 0, 0, 0, 0]⟩) 7 10 w hK hT (by decide) (by decide) (by decide +kernel)
theorem no_17 (w : World) (hK : KindsAt w) (hT : TabOk w) : Calls Tryz.prog 14 #[.string ⟨#[1, 1, 1, 2, 0, 0, 0, 6, 1]⟩, .int .i64 8, .int .i64 20] w fun e' w' => e' = .returned (.bool true) ∧ Below w.heap.size w w' :=
  no_yes (⟨#[1, 1, 1, 2, 0, 0, 0, 6, 1]⟩) 8 20 w hK hT (by decide) (by decide) (by decide +kernel)
theorem evs_tail {w : World} {g : Nat} {x : Ev} {l : List Ev} (h : EvsAt w (some ⟨g, 0, none⟩) (x :: l)) : EvsAt w (some ⟨g, 7, none⟩) l := by
  refine ⟨fun e he => h.1 e (List.mem_cons_of_mem _ he), fun hne => ?_⟩
  obtain ⟨b, o, e1, h2⟩ := h.2 (by simp)
  injection e1 with e1
  injection e1 with e2 e3
  subst e2
  subst e3
  refine ⟨g, 7, rfl, fun k hk j v hv => ?_⟩
  have := h2 (k + 1) (by simpa using hk) j v (by simpa using hv)
  rw [← this]
  congr 2
  omega
theorem chkB : (checkT 1 1 1 [⟨7, 0, 0, 0, 0, 0, 0⟩]).2 = 4 := by decide +kernel
theorem chkA : (checkT 0 1 2 []).2 = 1 := by decide
theorem dec0 : decL (byt ⟨#[]⟩) = (Tr.zero, 0, 8) := decL_frame (u := []) (by decide +kernel) (by decide)
set_option maxRecDepth 100000 in
set_option maxHeartbeats 8000000 in
theorem traceNames_any (w : World) (hK : KindsAt w) (hT : TabOk w) : Calls Tryz.prog 3 #[] w fun e' w' => e' = .returned (.bool true) ∧ Below w.heap.size w w' := by
  have HK := hid hK
  have HT := hid hT
  have ON := hid one_any
  dsimp only [trA] at ON
  have EB := hid (fun w' g (h : Below w.heap.size w w') (he : EvsAt w' (some ⟨g, 7, none⟩) [⟨7, 0, 0, 0, 0, 0, 0⟩]) => enc_any 1 1 1 (some ⟨g, 7, none⟩) [⟨7, 0, 0, 0, 0, 0, 0⟩] 1 w' he (hK.below h) (hT.below h))
  unfold EncP at EB
  rw [chkB] at EB
  have EA := hid (fun w' (h : Below w.heap.size w w') => enc_any 0 1 2 none [] 0 w' (EvsAt.nil _) (hK.below h) (hT.below h))
  unfold EncP at EA
  rw [chkA] at EA
  dsimp only [trA, List.length_nil, List.length_cons] at EA EB
  have DA := hid (fun w' (h : Below w.heap.size w w') => dec_any ⟨#[]⟩ w' (by decide) (hK.below h) (hT.below h))
  rw [dec0] at DA
  unfold DecP at DA
  dsimp only [trA, Tr.zero] at DA
  obtain ⟨Q, hQ⟩ : ∃ Q : Ending → World → Prop, Q = fun e' w' => e' = .returned (.bool true) ∧ Below w.heap.size w w' := ⟨_, rfl⟩
  rw [← hQ]
  have HQ := hid hQ
  clear hK hT hQ
  go_enter Tryz.func3, Tryz.ntmps3
  go_wp2_with fail
  refine (works_any w HK.out HT.out).mono ?_
  rintro e' w1 ⟨rfl, hb1⟩
  have HB := hid hb1
  clear hb1
  go_wp2_with fail
  refine (ON.out w1).mono ?_
  rintro e' w2 ⟨⟨g, rfl, hev⟩, hb2⟩
  have HEV := hid ((evs_tail hev).below (ext_alloc (ext_refl w2) (.cells #[.int .i64 1, .int .i64 1, .int .i64 1, .slice (some ⟨g, 7, none⟩) 1 1] 25)))
  have HB := hid (ext_trans (ext_trans HB.out hb2) (ext_alloc (ext_refl w2) (.cells #[.int .i64 1, .int .i64 1, .int .i64 1, .slice (some ⟨g, 7, none⟩) 1 1] 25)))
  clear hb2 hev
  go_wp2_with fail
  refine (EB.out _ g HB.out HEV.out).mono ?_
  rintro e' w3 ⟨rfl, hb3⟩
  have HB := hid (ext_trans HB.out hb3)
  clear hb3
  go_wp2_with fail
  refine (EA.out _ HB.out).mono ?_
  rintro e' w4 ⟨rfl, hb4⟩
  have HB := hid (ext_trans HB.out hb4)
  clear hb4
  go_wp2_with fail
  refine (DA.out _ HB.out).mono ?_
  rintro e' w5 ⟨av, cv, rfl, hev, hb5⟩
  have HB := hid (ext_trans (ext_trans HB.out hb5) (ext_alloc (ext_refl w5) (.cells #[.int .i64 0, .int .i64 0, .int .i64 0, .slice av 0 cv] 25)))
  clear hb5 hev EA EB DA ON HEV
  go_wp2_with fail
  --AFTER
  refine (no_0 _ (HK.out.below HB.out) (HT.out.below HB.out)).mono ?_
  rintro e' w1 ⟨rfl, hb1⟩
  have HB := hid (ext_trans HB.out hb1)
  clear hb1
  go_wp2_with fail
  refine (no_1 _ (HK.out.below HB.out) (HT.out.below HB.out)).mono ?_
  rintro e' w1 ⟨rfl, hb1⟩
  have HB := hid (ext_trans HB.out hb1)
  clear hb1
  go_wp2_with fail
  refine (no_2 _ (HK.out.below HB.out) (HT.out.below HB.out)).mono ?_
  rintro e' w1 ⟨rfl, hb1⟩
  have HB := hid (ext_trans HB.out hb1)
  clear hb1
  go_wp2_with fail
  refine (no_3 _ (HK.out.below HB.out) (HT.out.below HB.out)).mono ?_
  rintro e' w1 ⟨rfl, hb1⟩
  have HB := hid (ext_trans HB.out hb1)
  clear hb1
  go_wp2_with fail
  refine (no_4 _ (HK.out.below HB.out) (HT.out.below HB.out)).mono ?_
  rintro e' w1 ⟨rfl, hb1⟩
  have HB := hid (ext_trans HB.out hb1)
  clear hb1
  go_wp2_with fail
  refine (no_5 _ (HK.out.below HB.out) (HT.out.below HB.out)).mono ?_
  rintro e' w1 ⟨rfl, hb1⟩
  have HB := hid (ext_trans HB.out hb1)
  clear hb1
  go_wp2_with fail
  refine (no_6 _ (HK.out.below HB.out) (HT.out.below HB.out)).mono ?_
  rintro e' w1 ⟨rfl, hb1⟩
  have HB := hid (ext_trans HB.out hb1)
  clear hb1
  go_wp2_with fail
  refine (no_7 _ (HK.out.below HB.out) (HT.out.below HB.out)).mono ?_
  rintro e' w1 ⟨rfl, hb1⟩
  have HB := hid (ext_trans HB.out hb1)
  clear hb1
  go_wp2_with fail
  refine (no_8 _ (HK.out.below HB.out) (HT.out.below HB.out)).mono ?_
  rintro e' w1 ⟨rfl, hb1⟩
  have HB := hid (ext_trans HB.out hb1)
  clear hb1
  go_wp2_with fail
  refine (no_9 _ (HK.out.below HB.out) (HT.out.below HB.out)).mono ?_
  rintro e' w1 ⟨rfl, hb1⟩
  have HB := hid (ext_trans HB.out hb1)
  clear hb1
  go_wp2_with fail
  refine (no_10 _ (HK.out.below HB.out) (HT.out.below HB.out)).mono ?_
  rintro e' w1 ⟨rfl, hb1⟩
  have HB := hid (ext_trans HB.out hb1)
  clear hb1
  go_wp2_with fail
  refine (no_11 _ (HK.out.below HB.out) (HT.out.below HB.out)).mono ?_
  rintro e' w1 ⟨rfl, hb1⟩
  have HB := hid (ext_trans HB.out hb1)
  clear hb1
  go_wp2_with fail
  refine (no_12 _ (HK.out.below HB.out) (HT.out.below HB.out)).mono ?_
  rintro e' w1 ⟨rfl, hb1⟩
  have HB := hid (ext_trans HB.out hb1)
  clear hb1
  go_wp2_with fail
  refine (no_13 _ (HK.out.below HB.out) (HT.out.below HB.out)).mono ?_
  rintro e' w1 ⟨rfl, hb1⟩
  have HB := hid (ext_trans HB.out hb1)
  clear hb1
  go_wp2_with fail
  refine (no_14 _ (HK.out.below HB.out) (HT.out.below HB.out)).mono ?_
  rintro e' w1 ⟨rfl, hb1⟩
  have HB := hid (ext_trans HB.out hb1)
  clear hb1
  go_wp2_with fail
  refine (no_15 _ (HK.out.below HB.out) (HT.out.below HB.out)).mono ?_
  rintro e' w1 ⟨rfl, hb1⟩
  have HB := hid (ext_trans HB.out hb1)
  clear hb1
  go_wp2_with fail
  refine (no_16 _ (HK.out.below HB.out) (HT.out.below HB.out)).mono ?_
  rintro e' w1 ⟨rfl, hb1⟩
  have HB := hid (ext_trans HB.out hb1)
  clear hb1
  go_wp2_with fail
  refine (no_17 _ (HK.out.below HB.out) (HT.out.below HB.out)).mono ?_
  rintro e' w1 ⟨rfl, hb1⟩
  have HB := hid (ext_trans HB.out hb1)
  clear hb1
  go_wp2_with fail
  rw [HQ.out]
  exact ⟨by rfl, HB.out⟩
end Go.Proofs.YtnblhodhkifeeaaGreatDoor
