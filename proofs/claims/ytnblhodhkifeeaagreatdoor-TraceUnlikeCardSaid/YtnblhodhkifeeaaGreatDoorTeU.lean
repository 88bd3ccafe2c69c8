/-
 Walk: TraceUnlike.
-/
import Derived.Test.YtnblhodhkifeeaaGreatDoorTrGZ
import Derived.Test.YtnblhodhkifeeaaGreatDoorTrGR
namespace Go.Proofs.YtnblhodhkifeeaaGreatDoor
set_option linter.unusedVariables false
set_option linter.unusedSimpArgs false
open Go Go.RowKit
section
variable {P : Program} {ops : Array Oper} {Q : Exit → Act → World → Prop}
def WFu (s : Bool) (x : Value) : Value := match s with | true => undef | false => x
def WTu (s : Bool) (x : Value) : Value := match s with | true => x | false => undef
def GuardKu (K : Nat → Value) (i : Nat) (o : Oper) : Prop := ∀ (g : Nat) (b : Bool), o.guard = some (g, b) → ∃ b', K g = .bool b' ∧ (b' ≠ b → K i = undef)
def StepKu (P : Program) (ops : Array Oper) (K : Nat → Value) (G : World → Prop) (a0 : Act) (i : Nat) (o : Oper) : Prop :=
 GuardKu K i o ∧ ∀ w', G w' → (∀ (g : Nat) (b : Bool), o.guard = some (g, b) → K g = .bool b) →
  ∀ (ρ : Operand → Value), (∀ v, ρ (.const v) = v) → (∀ g, ρ (.global g) = .pointer (some ⟨g, 0, none⟩)) → (∀ f, ρ (.func f) = .func (.func f) #[] #[]) →
   (∀ j d, (depsOf o).contains j = true → dstOf ops j = some d → ρ (.tmp d) = K j) → (∀ d, farOf ops d = true → ρ (.tmp d) = a0.eval (.tmp d)) →
   OpY P o ρ w' fun v w'' => (o.dst = none ∨ v = K i) ∧ G w''
theorem each_monou {F F' : Nat → Oper → Prop} (h : ∀ i o, F i o → F' i o) : ∀ (l : List Oper) (i : Nat), EachOp F i l → EachOp F' i l
 | [], _, _ => trivial
 | o :: l, i, hh => ⟨h i o hh.1, each_monou h l (i + 1) hh.2⟩
theorem stepK_Ju {K : Nat → Value} {G : World → Prop} {a0 : Act} {i : Nat} {o : Oper} (h : StepKu P ops K G a0 i o) : StepKJ P ops K (fun _ w => G w) a0 i o :=
 ⟨fun g b hg => (h.1 g b hg).elim fun b' hb => ⟨b', hb.1, fun hne => ⟨hb.2 hne, fun _ _ _ _ hJ => hJ⟩⟩, fun _ w' _ _ hJ hgv => h.2 w' hJ hgv⟩
theorem wp_region_knownu {id : Nat} {a aF : Act} {w : World} (K : Nat → Value) (G : World → Prop) (hF : putAll ops K (fun _ => true) a ops.size = aF) (hm : P.follows .mixedOrders = true) (hd : dstsApart ops = true) (hb : edgesBackB ops = true) (hng : guardsOk ops = true)
  (hsz : (List.range ops.size).all (fun i => match dstOf ops i with | some d => decide (d < a.tmps.size) | none => true) = true)
  (h0 : G w.drew)
  (hstep : EachOp (fun i o => StepKu P ops K G a i o) 0 ops.toList)
  (hdone : ∀ w', G w' → Q .normal aF w') :
  (Code.region id ops true).wp P Q a w :=
 wp_region_knownJ K (fun _ w => G w) hF hm hd hb hng hsz (fun _ _ _ _ h => h) h0 (each_monou (fun _ _ h => stepK_Ju h) _ _ hstep) (fun w' h => hdone w' h)
end
theorem enc_inj {T V S T' V' S' : Int} {l l' : List Ev} (hx : ∀ e ∈ l, -9223372036854775808 ≤ e.x ∧ e.x ≤ 9223372036854775807) (hx' : ∀ e ∈ l', -9223372036854775808 ≤ e.x ∧ e.x ≤ 9223372036854775807) (h : (checkT T V S l).2 = 0) (h' : (checkT T' V' S' l').2 = 0)
  (he : frameL (bodyL T V S l) = frameL (bodyL T' V' S' l')) : sameT T V S l T' V' S' l' := by
 have h1 := dec_enc hx h
 have h2 := dec_enc hx' h'
 rw [he, h2] at h1
 have hz := (told_of_check hx h).1
 have hz' := (told_of_check hx' h').1
 unfold sizeOk at hz hz'
 have hz := of_decide_eq_true hz
 have hz' := of_decide_eq_true hz'
 obtain ⟨e1, -⟩ := Prod.mk.inj h1
 injection e1 with e1 e2 e3 e4
 exact ⟨by omega, by omega, by omega, e4.symm⟩
set_option maxRecDepth 100000 in
set_option maxHeartbeats 4000000 in
theorem traceUnlike_great (T V S T' V' S' : Int) (a a' : Option Addr) (l l' : List Ev) (cap cap' : Nat) (w : World) (hK : KindsAt w) (hT : TabOk w) (hb : 2000 < l.length ∨ 2000 < l'.length) : Calls Tryz.prog 9 #[trA T V S a l.length cap, trA T' V' S' a' l'.length cap'] w fun e' w' => e' = .returned (.bool true) ∧ Below w.heap.size w w' := by
 obtain ⟨W1, hW1⟩ : ∃ W1, W1 = twoW w T V S T' V' S' (.slice a l.length cap) (.slice a' l'.length cap') := ⟨_, rfl⟩
 have hb1 : Below w.heap.size w W1 := by rw [hW1]; exact two_below ..
 have ha := two_a w T V S T' V' S' (.slice a l.length cap) (.slice a' l'.length cap')
 have hbb := two_b w T V S T' V' S' (.slice a l.length cap) (.slice a' l'.length cap')
 rw [← hW1] at ha hbb
 have HWK := hid (fun w' (h : Below w.heap.size w w') => works_any w' (hK.below h) (hT.below h))
 have HB1 := hid hb1
 have HA := hid ha
 have HB := hid hbb
 unfold twoW at hW1
 have HW1 := hid hW1
 obtain ⟨Q, hQ⟩ : ∃ Q : Ending → World → Prop, Q = fun e' w' => e' = .returned (.bool true) ∧ Below w.heap.size w w' := ⟨_, rfl⟩
 rw [← hQ]
 have HQ := hid hQ
 dsimp only [trA]
 clear hK hT hb1 ha hbb hW1 hQ
 by_cases h1 : 2000 < l.length
 case' pos =>
  have g1 : decide ((2000 : Int) < (l.length : Int)) = true := by rw [decide_eq_true_iff]; omega
  have g2 : decide (2000 < l.length) = true := by rw [decide_eq_true_iff]; omega
 case' neg =>
  have g1 : decide ((2000 : Int) < (l.length : Int)) = false := by rw [decide_eq_false_iff_not]; omega
  have g2 : decide (2000 < l.length) = false := by rw [decide_eq_false_iff_not]; omega
  have g3 : decide ((2000 : Int) < (l'.length : Int)) = true := by rw [decide_eq_true_iff]; omega
  have g4 : decide (2000 < l'.length) = true := by rw [decide_eq_true_iff]; omega
 all_goals
  clear hb h1
  go_enter Tryz.func9, Tryz.ntmps9
  go_wp2_with fail
  rw [← HW1.out]
  refine (HWK.out W1 HB1.out).mono ?_
  rintro e' w1 ⟨rfl, hb1⟩
  have x3 := (HA.out.below hb1).cell 3 (v := .slice a l.length cap) rfl
  have y3 := (HB.out.below hb1).cell 3 (v := .slice a' l'.length cap') rfl
  have HB2 := hid (ext_trans HB1.out hb1)
  clear hb1
  go_wp2_with fail
  refine (HWK.out _ HB2.out).mono ?_
  rintro e' w2 ⟨rfl, hb2⟩
  go_wp2_with fail
  rw [HQ.out]
  exact ⟨rfl, ext_trans HB2.out hb2⟩
set_option maxRecDepth 100000 in
set_option maxHeartbeats 4000000 in
theorem traceUnlike_small (T V S T' V' S' : Int) (a a' : Option Addr) (l l' : List Ev) (cap cap' : Nat) (w : World) (hE : EvsAt w a l) (hE' : EvsAt w a' l') (hK : KindsAt w) (hT : TabOk w) (hl : l.length ≤ 2000) (hl' : l'.length ≤ 2000) : Calls Tryz.prog 9 #[trA T V S a l.length cap, trA T' V' S' a' l'.length cap'] w fun e' w' => e' = .returned (.bool true) ∧ Below w.heap.size w w' := by
 obtain ⟨W1, hW1⟩ : ∃ W1, W1 = twoW w T V S T' V' S' (.slice a l.length cap) (.slice a' l'.length cap') := ⟨_, rfl⟩
 have hb1 : Below w.heap.size w W1 := by rw [hW1]; exact two_below ..
 have ha := two_a w T V S T' V' S' (.slice a l.length cap) (.slice a' l'.length cap')
 have hbb := two_b w T V S T' V' S' (.slice a l.length cap) (.slice a' l'.length cap')
 rw [← hW1] at ha hbb
 have HWK := hid (works_any W1 (hK.below hb1) (hT.below hb1))
 have HEN := hid (fun w' (h : Below w.heap.size w w') => enc_any T V S a l cap w' (hE.below h) (hK.below h) (hT.below h))
 have HEN' := hid (fun w' (h : Below w.heap.size w w') => enc_any T' V' S' a' l' cap' w' (hE'.below h) (hK.below h) (hT.below h))
 have hxs : ∀ e ∈ l, -9223372036854775808 ≤ e.x ∧ e.x ≤ 9223372036854775807 := fun e he => (hE.1 e he).2.2.2.2.2.1
 have hxs' : ∀ e ∈ l', -9223372036854775808 ≤ e.x ∧ e.x ≤ 9223372036854775807 := fun e he => (hE'.1 e he).2.2.2.2.2.1
 obtain ⟨sb, hsb⟩ : ∃ sb : Bool, sb = true ↔ sameT T V S l T' V' S' l' := by
  by_cases h : sameT T V S l T' V' S' l'
  ·exact ⟨true, fun _ => h, fun _ => rfl⟩
  ·exact ⟨false, (fun h => by cases h), fun h' => absurd h' h⟩
 have hcmp : (checkT T V S l).2 = 0 → (checkT T' V' S' l').2 = 0 → ((bstr (frameL (bodyL T V S l))).toList == (bstr (frameL (bodyL T' V' S' l'))).toList) = sb := fun h1 h2 => by
  rw [dcmp_byt, byt_bstr (frameL_lt (bodyL_byte T V S l)), byt_bstr (frameL_lt (bodyL_byte T' V' S' l'))]
  cases sb with
  | true =>
   obtain ⟨e1, e2, e3, e4⟩ := hsb.1 rfl
   rw [e1, e2, e3, e4]; exact decide_eq_true rfl
  | false =>
   refine decide_eq_false fun h => ?_
   have := hsb.2 (enc_inj hxs hxs' h1 h2 h)
   cases this
 have bool_of : ∀ x : Bool, (x = true ↔ sameT T V S l T' V' S' l') → x = sb := fun x hx => by
  cases x <;> cases sb
  ·rfl
  ·exact absurd (hx.2 (hsb.1 rfl)) (by decide)
  ·exact absurd (hsb.2 (hx.1 rfl)) (by decide)
  ·rfl
 have HS1 := hid (fun w' (h : Below w.heap.size w w') => (same_any T V S T' V' S' a a' l l' cap cap' w' (hE.below h) (hE'.below h) (by omega) (by omega)).mono fun e' w'' hh => by
  obtain ⟨⟨x, h1, h2⟩, h3⟩ := hh
  exact (⟨by rw [h1, bool_of x h2], h3⟩ : e' = .returned (.bool sb) ∧ Below w'.heap.size w' w''))
 have HS2 := hid (fun w' (h : Below w.heap.size w w') => (refSame_any T V S T' V' S' a a' l l' cap cap' w' (hE.below h) (hE'.below h) (by omega) (by omega)).mono fun e' w'' hh => by
  obtain ⟨⟨x, h1, h2⟩, h3⟩ := hh
  exact (⟨by rw [h1, bool_of x h2], h3⟩ : e' = .returned (.bool sb) ∧ Below w'.heap.size w' w''))
 have g1 : decide ((2000 : Int) < (l.length : Int)) = false := by rw [decide_eq_false_iff_not]; omega
 have g2 : decide (2000 < l.length) = false := by rw [decide_eq_false_iff_not]; omega
 have g3 : decide ((2000 : Int) < (l'.length : Int)) = false := by rw [decide_eq_false_iff_not]; omega
 have g4 : decide (2000 < l'.length) = false := by rw [decide_eq_false_iff_not]; omega
 have HB1 := hid hb1
 have HA := hid ha
 have HB := hid hbb
 unfold twoW at hW1
 have HW1 := hid hW1
 unfold EncP at HEN HEN'
 obtain ⟨q, hq⟩ : ∃ q, q = (checkT T V S l).2 := ⟨_, rfl⟩
 obtain ⟨q', hq'⟩ : ∃ q', q' = (checkT T' V' S' l').2 := ⟨_, rfl⟩
 rw [← hq] at HEN hcmp
 rw [← hq'] at HEN' hcmp
 obtain ⟨fa, hfa⟩ : ∃ fa, fa = (if q = 0 then bstr (frameL (bodyL T V S l)) else ⟨#[]⟩) := ⟨_, rfl⟩
 obtain ⟨fb, hfb⟩ : ∃ fb, fb = (if q' = 0 then bstr (frameL (bodyL T' V' S' l')) else ⟨#[]⟩) := ⟨_, rfl⟩
 rw [← hfa] at HEN
 rw [← hfb] at HEN'
 have HCM := hid (show q = 0 → q' = 0 → (fa.toList == fb.toList) = sb from fun h1 h2 => by rw [hfa, hfb, if_pos h1, if_pos h2]; exact hcmp h1 h2)
 obtain ⟨Q, hQ⟩ : ∃ Q : Ending → World → Prop, Q = fun e' w' => e' = .returned (.bool true) ∧ Below w.heap.size w w' := ⟨_, rfl⟩
 rw [← hQ]
 have HQ := hid hQ
 dsimp only [trA] at HEN HEN' HS1 HS2 ⊢
 clear hE hE' hK hT hb1 ha hbb hW1 hQ hl hl' hxs hxs' hsb hcmp bool_of hq hq' hfa hfb
 go_enter Tryz.func9, Tryz.ntmps9
 go_wp2_with fail
 rw [← HW1.out]
 refine HWK.out.mono ?_
 rintro e' W2 ⟨rfl, hb2⟩
 have HB2 := hid (ext_trans HB1.out hb2)
 have hA2 := HA.out.below hb2
 have hB2 := HB.out.below hb2
 have x0 := hA2.cell 0 (v := .int .i64 T) rfl
 have x1 := hA2.cell 1 (v := .int .i64 V) rfl
 have x2 := hA2.cell 2 (v := .int .i64 S) rfl
 have x3 := hA2.cell 3 (v := .slice a l.length cap) rfl
 have y3 := hB2.cell 3 (v := .slice a' l'.length cap') rfl
 have HA2 := hid hA2
 have HBB2 := hid hB2
 clear hb2 hA2 hB2 HA HB HB1 HW1 HWK
 go_wp2_with fail
 clear x0 x1 x2 x3 y3
 refine (HEN.out W2 HB2.out).mono ?_
 rintro e' W3 ⟨rfl, hb3⟩
 have HB3 := hid (ext_trans HB2.out hb3)
 have hA3 := HA2.out.below hb3
 have hB3 := HBB2.out.below hb3
 have y0 := hB3.cell 0 (v := .int .i64 T') rfl
 have y1 := hB3.cell 1 (v := .int .i64 V') rfl
 have y2 := hB3.cell 2 (v := .int .i64 S') rfl
 have y3 := hB3.cell 3 (v := .slice a' l'.length cap') rfl
 have HA3 := hid hA3
 have HBB3 := hid hB3
 clear hb3 hA3 hB3 HA2 HBB2 HB2
 go_wp2_with fail
 clear y0 y1 y2 y3
 refine (HEN'.out W3 HB3.out).mono ?_
 rintro e' Wd ⟨rfl, hb4⟩
 have HBd := hid (ext_trans HB3.out hb4)
 have HA := hid (HA3.out.below hb4)
 have HB := hid (HBB3.out.below hb4)
 clear hb4 HA3 HBB3 HB3 HEN HEN'
 by_cases hq0 : q = 0
 ·by_cases hq1 : q' = 0
  ·have HCMP := hid (HCM.out hq0 hq1)
   subst hq0
   subst hq1
   have HS1 := hid (fun w' (h : Below Wd.heap.size Wd w') => HS1.out w' (ext_trans HBd.out h))
   have HS2 := hid (fun w' (h : Below Wd.heap.size Wd w') => HS2.out w' (ext_trans HBd.out h))
   clear HCM
   have HZ := hid (fun w' (h : Below Wd.heap.size Wd w') => ext_trans HBd.out h)
   clear HBd
   generalize w.heap.size = Tb at HA HB HZ HQ ⊢
   go_wp2_with fail
   apply wp_region_knownu (fun qq => ([(.int .i64 0), (.bool false), (.bool false), (WFu false (.int .i64 0)), (WFu false (.bool false)), (.bool false), (.bool false), (WFu false (.string fa)), (WFu false (.string fb)), (WFu false (.bool sb)), (WFu false (.agg #[.int .i64 T, .int .i64 V, .int .i64 S, .slice a l.length cap])), (WFu false (.agg #[.int .i64 T', .int .i64 V', .int .i64 S', .slice a' l'.length cap'])), (WFu false (.bool sb)), (WFu false (.bool true)), (WFu false (.bool true)), (WTu true (.agg #[.int .i64 T, .int .i64 V, .int .i64 S, .slice a l.length cap])), (WTu true (.agg #[.int .i64 T', .int .i64 V', .int .i64 S', .slice a' l'.length cap'])), (WTu true (.bool sb)), (WTu true (.agg #[.int .i64 T, .int .i64 V, .int .i64 S, .slice a l.length cap])), (WTu true (.agg #[.int .i64 T', .int .i64 V', .int .i64 S', .slice a' l'.length cap'])), (WTu true (.bool sb)), (WTu true (.bool true)), (WFu false (.bool true)), (.bool true), (.bool true)] : List Value).getD qq undef) (fun w' => Below Wd.heap.size Wd w')
   focus (simp [putAll, dstOf, Act.put, List.getD, WFu, WTu]; rfl)
   case hm => kernel_rfl
   case hd => kernel_rfl
   case hb => kernel_rfl
   case hng => kernel_rfl
   case hsz => kernel_rfl
   case h0 => exact ext_drew (ext_refl _)
   case hstep =>
    refine ⟨?_, ?_, ?_, ?_, ?_, ?_, ?_, ?_, ?_, ?_, ?_, ?_, ?_, ?_, ?_, ?_, ?_, ?_, ?_, ?_, ?_, ?_, ?_, ?_, ?_, trivial⟩
    ·refine ⟨(fun g b h => by cases h), fun w' hG hg ρ h1 h2 h3 h4 h5 => ?_⟩
     have hG := hid hG
     have f6 : ρ (.tmp 6) = .int .i64 0 := h5 6 (by kernel_rfl)
     all_goals
      try dsimp only [WFu, WTu] at *
      clear h4 h5 hg
      unfold OpY
      go_simp
      first | exact ⟨rfl, hG.out⟩ | exact ⟨Or.inr rfl, hG.out⟩ | exact ⟨Or.inl rfl, hG.out⟩
    ·refine ⟨(fun g b h => by cases h), fun w' hG hg ρ h1 h2 h3 h4 h5 => ?_⟩
     have hG := hid hG
     have f34 : ρ (.tmp 34) = (.int .i64 0) := h4 0 34 (by kernel_rfl) (by kernel_rfl)
     all_goals
      try dsimp only [WFu, WTu] at *
      clear h4 h5 hg
      unfold OpY
      go_simp
      first | exact ⟨rfl, hG.out⟩ | exact ⟨Or.inr rfl, hG.out⟩ | exact ⟨Or.inl rfl, hG.out⟩
    ·refine ⟨(fun g b h => by cases h), fun w' hG hg ρ h1 h2 h3 h4 h5 => ?_⟩
     have hG := hid hG
     have f35 : ρ (.tmp 35) = (.bool false) := h4 1 35 (by kernel_rfl) (by kernel_rfl)
     all_goals
      try dsimp only [WFu, WTu] at *
      clear h4 h5 hg
      unfold OpY
      go_simp
      first | exact ⟨rfl, hG.out⟩ | exact ⟨Or.inr rfl, hG.out⟩ | exact ⟨Or.inl rfl, hG.out⟩
    ·refine ⟨(fun g b h => by
       obtain ⟨rfl, rfl⟩ := Prod.mk.inj (Option.some.inj h)
       exact ⟨false, rfl, fun h => by first | rfl | exact absurd rfl h⟩), fun w' hG hg ρ h1 h2 h3 h4 h5 => ?_⟩
     have hG := hid hG
     have f8 : ρ (.tmp 8) = .int .i64 0 := h5 8 (by kernel_rfl)
     all_goals
      try dsimp only [WFu, WTu] at *
      clear h4 h5 hg
      unfold OpY
      go_simp
      first | exact ⟨rfl, hG.out⟩ | exact ⟨Or.inr rfl, hG.out⟩ | exact ⟨Or.inl rfl, hG.out⟩
    ·refine ⟨(fun g b h => by
       obtain ⟨rfl, rfl⟩ := Prod.mk.inj (Option.some.inj h)
       exact ⟨false, rfl, fun h => by first | rfl | exact absurd rfl h⟩), fun w' hG hg ρ h1 h2 h3 h4 h5 => ?_⟩
     have hG := hid hG
     have f37 : ρ (.tmp 37) = (WFu false (.int .i64 0)) := h4 3 37 (by kernel_rfl) (by kernel_rfl)
     all_goals
      try dsimp only [WFu, WTu] at *
      clear h4 h5 hg
      unfold OpY
      go_simp
      first | exact ⟨rfl, hG.out⟩ | exact ⟨Or.inr rfl, hG.out⟩ | exact ⟨Or.inl rfl, hG.out⟩
    ·refine ⟨(fun g b h => by cases h), fun w' hG hg ρ h1 h2 h3 h4 h5 => ?_⟩
     have hG := hid hG
     have f36 : ρ (.tmp 36) = (.bool false) := h4 2 36 (by kernel_rfl) (by kernel_rfl)
     have f38 : ρ (.tmp 38) = (WFu false (.bool false)) := h4 4 38 (by kernel_rfl) (by kernel_rfl)
     all_goals
      try dsimp only [WFu, WTu] at *
      clear h4 h5 hg
      unfold OpY
      go_simp
      first | exact ⟨rfl, hG.out⟩ | exact ⟨Or.inr rfl, hG.out⟩ | exact ⟨Or.inl rfl, hG.out⟩
    ·refine ⟨(fun g b h => by cases h), fun w' hG hg ρ h1 h2 h3 h4 h5 => ?_⟩
     have hG := hid hG
     have f39 : ρ (.tmp 39) = (.bool false) := h4 5 39 (by kernel_rfl) (by kernel_rfl)
     all_goals
      try dsimp only [WFu, WTu] at *
      clear h4 h5 hg
      unfold OpY
      go_simp
      first | exact ⟨rfl, hG.out⟩ | exact ⟨Or.inr rfl, hG.out⟩ | exact ⟨Or.inl rfl, hG.out⟩
    ·refine ⟨(fun g b h => by
       obtain ⟨rfl, rfl⟩ := Prod.mk.inj (Option.some.inj h)
       exact ⟨false, rfl, fun h => by first | rfl | exact absurd rfl h⟩), fun w' hG hg ρ h1 h2 h3 h4 h5 => ?_⟩
     have hG := hid hG
     have f5 : ρ (.tmp 5) = .string fa := h5 5 (by kernel_rfl)
     all_goals
      try dsimp only [WFu, WTu] at *
      clear h4 h5 hg
      unfold OpY
      go_simp
      first | exact ⟨rfl, hG.out⟩ | exact ⟨Or.inr rfl, hG.out⟩ | exact ⟨Or.inl rfl, hG.out⟩
    ·refine ⟨(fun g b h => by
       obtain ⟨rfl, rfl⟩ := Prod.mk.inj (Option.some.inj h)
       exact ⟨false, rfl, fun h => by first | rfl | exact absurd rfl h⟩), fun w' hG hg ρ h1 h2 h3 h4 h5 => ?_⟩
     have hG := hid hG
     have f7 : ρ (.tmp 7) = .string fb := h5 7 (by kernel_rfl)
     all_goals
      try dsimp only [WFu, WTu] at *
      clear h4 h5 hg
      unfold OpY
      go_simp
      first | exact ⟨rfl, hG.out⟩ | exact ⟨Or.inr rfl, hG.out⟩ | exact ⟨Or.inl rfl, hG.out⟩
    ·refine ⟨(fun g b h => by
       obtain ⟨rfl, rfl⟩ := Prod.mk.inj (Option.some.inj h)
       exact ⟨false, rfl, fun h => by first | rfl | exact absurd rfl h⟩), fun w' hG hg ρ h1 h2 h3 h4 h5 => ?_⟩
     have hG := hid hG
     have f41 : ρ (.tmp 41) = (WFu false (.string fa)) := h4 7 41 (by kernel_rfl) (by kernel_rfl)
     have f42 : ρ (.tmp 42) = (WFu false (.string fb)) := h4 8 42 (by kernel_rfl) (by kernel_rfl)
     have hcmp := HCMP.out
     all_goals
      try dsimp only [WFu, WTu] at *
      clear h4 h5 hg
      unfold OpY
      go_simp
      first | exact ⟨rfl, hG.out⟩ | exact ⟨Or.inr rfl, hG.out⟩ | exact ⟨Or.inl rfl, hG.out⟩
    ·refine ⟨(fun g b h => by
       obtain ⟨rfl, rfl⟩ := Prod.mk.inj (Option.some.inj h)
       exact ⟨false, rfl, fun h => by first | rfl | exact absurd rfl h⟩), fun w' hG hg ρ h1 h2 h3 h4 h5 => ?_⟩
     have hG := hid hG
     have f2 : ρ (.tmp 2) = .pointer (some ⟨Tb, 0, none⟩) := h5 2 (by kernel_rfl)
     have c0 := (HA.out.below hG.out).cell 0 (v := .int .i64 T) rfl
     have c1 := (HA.out.below hG.out).cell 1 (v := .int .i64 V) rfl
     have c2 := (HA.out.below hG.out).cell 2 (v := .int .i64 S) rfl
     have c3 := (HA.out.below hG.out).cell 3 (v := .slice a l.length cap) rfl
     all_goals
      try dsimp only [WFu, WTu] at *
      clear h4 h5 hg
      unfold OpY
      go_simp
      first | exact ⟨rfl, hG.out⟩ | exact ⟨Or.inr rfl, hG.out⟩ | exact ⟨Or.inl rfl, hG.out⟩
    ·refine ⟨(fun g b h => by
       obtain ⟨rfl, rfl⟩ := Prod.mk.inj (Option.some.inj h)
       exact ⟨false, rfl, fun h => by first | rfl | exact absurd rfl h⟩), fun w' hG hg ρ h1 h2 h3 h4 h5 => ?_⟩
     have hG := hid hG
     have f3 : ρ (.tmp 3) = .pointer (some ⟨Tb + 1, 0, none⟩) := h5 3 (by kernel_rfl)
     have c0 := (HB.out.below hG.out).cell 0 (v := .int .i64 T') rfl
     have c1 := (HB.out.below hG.out).cell 1 (v := .int .i64 V') rfl
     have c2 := (HB.out.below hG.out).cell 2 (v := .int .i64 S') rfl
     have c3 := (HB.out.below hG.out).cell 3 (v := .slice a' l'.length cap') rfl
     all_goals
      try dsimp only [WFu, WTu] at *
      clear h4 h5 hg
      unfold OpY
      go_simp
      first | exact ⟨rfl, hG.out⟩ | exact ⟨Or.inr rfl, hG.out⟩ | exact ⟨Or.inl rfl, hG.out⟩
    ·refine ⟨(fun g b h => by
       obtain ⟨rfl, rfl⟩ := Prod.mk.inj (Option.some.inj h)
       exact ⟨false, rfl, fun h => by first | rfl | exact absurd rfl h⟩), fun w' hG hg ρ h1 h2 h3 h4 h5 => ?_⟩
     have hG := hid hG
     have f44 : ρ (.tmp 44) = (WFu false (.agg #[.int .i64 T, .int .i64 V, .int .i64 S, .slice a l.length cap])) := h4 10 44 (by kernel_rfl) (by kernel_rfl)
     have f45 : ρ (.tmp 45) = (WFu false (.agg #[.int .i64 T', .int .i64 V', .int .i64 S', .slice a' l'.length cap'])) := h4 11 45 (by kernel_rfl) (by kernel_rfl)
     all_goals
      try dsimp only [WFu, WTu] at *
      clear h4 h5 hg
      unfold OpY
      go_simp
      unfold OpR
      refine (HS1.out _ hG.out).mono ?_
      rintro e' w1 ⟨rfl, hb⟩
      first | exact ⟨_, rfl, rfl, ext_trans hG.out hb⟩ | exact ⟨_, rfl, Or.inr rfl, ext_trans hG.out hb⟩
    ·refine ⟨(fun g b h => by
       obtain ⟨rfl, rfl⟩ := Prod.mk.inj (Option.some.inj h)
       exact ⟨false, rfl, fun h => by first | rfl | exact absurd rfl h⟩), fun w' hG hg ρ h1 h2 h3 h4 h5 => ?_⟩
     have hG := hid hG
     have f43 : ρ (.tmp 43) = (WFu false (.bool sb)) := h4 9 43 (by kernel_rfl) (by kernel_rfl)
     have f46 : ρ (.tmp 46) = (WFu false (.bool sb)) := h4 12 46 (by kernel_rfl) (by kernel_rfl)
     cases sb
     all_goals
      try dsimp only [WFu, WTu] at *
      clear h4 h5 hg
      unfold OpY
      go_simp
      first | exact ⟨rfl, hG.out⟩ | exact ⟨Or.inr rfl, hG.out⟩ | exact ⟨Or.inl rfl, hG.out⟩
    ·refine ⟨(fun g b h => by
       obtain ⟨rfl, rfl⟩ := Prod.mk.inj (Option.some.inj h)
       exact ⟨false, rfl, fun h => by first | rfl | exact absurd rfl h⟩), fun w' hG hg ρ h1 h2 h3 h4 h5 => ?_⟩
     have hG := hid hG
     have f47 : ρ (.tmp 47) = (WFu false (.bool true)) := h4 13 47 (by kernel_rfl) (by kernel_rfl)
     all_goals
      try dsimp only [WFu, WTu] at *
      clear h4 h5 hg
      unfold OpY
      go_simp
      first | exact ⟨rfl, hG.out⟩ | exact ⟨Or.inr rfl, hG.out⟩ | exact ⟨Or.inl rfl, hG.out⟩
    ·refine ⟨(fun g b h => by
       obtain ⟨rfl, rfl⟩ := Prod.mk.inj (Option.some.inj h)
       exact ⟨true, rfl, fun h => by first | rfl | exact absurd rfl h⟩), fun w' hG hg ρ h1 h2 h3 h4 h5 => ?_⟩
     have hG := hid hG
     have f2 : ρ (.tmp 2) = .pointer (some ⟨Tb, 0, none⟩) := h5 2 (by kernel_rfl)
     have c0 := (HA.out.below hG.out).cell 0 (v := .int .i64 T) rfl
     have c1 := (HA.out.below hG.out).cell 1 (v := .int .i64 V) rfl
     have c2 := (HA.out.below hG.out).cell 2 (v := .int .i64 S) rfl
     have c3 := (HA.out.below hG.out).cell 3 (v := .slice a l.length cap) rfl
     all_goals
      try dsimp only [WFu, WTu] at *
      clear h4 h5 hg
      unfold OpY
      go_simp
      first | exact ⟨rfl, hG.out⟩ | exact ⟨Or.inr rfl, hG.out⟩ | exact ⟨Or.inl rfl, hG.out⟩
    ·refine ⟨(fun g b h => by
       obtain ⟨rfl, rfl⟩ := Prod.mk.inj (Option.some.inj h)
       exact ⟨true, rfl, fun h => by first | rfl | exact absurd rfl h⟩), fun w' hG hg ρ h1 h2 h3 h4 h5 => ?_⟩
     have hG := hid hG
     have f3 : ρ (.tmp 3) = .pointer (some ⟨Tb + 1, 0, none⟩) := h5 3 (by kernel_rfl)
     have c0 := (HB.out.below hG.out).cell 0 (v := .int .i64 T') rfl
     have c1 := (HB.out.below hG.out).cell 1 (v := .int .i64 V') rfl
     have c2 := (HB.out.below hG.out).cell 2 (v := .int .i64 S') rfl
     have c3 := (HB.out.below hG.out).cell 3 (v := .slice a' l'.length cap') rfl
     all_goals
      try dsimp only [WFu, WTu] at *
      clear h4 h5 hg
      unfold OpY
      go_simp
      first | exact ⟨rfl, hG.out⟩ | exact ⟨Or.inr rfl, hG.out⟩ | exact ⟨Or.inl rfl, hG.out⟩
    ·refine ⟨(fun g b h => by
       obtain ⟨rfl, rfl⟩ := Prod.mk.inj (Option.some.inj h)
       exact ⟨true, rfl, fun h => by first | rfl | exact absurd rfl h⟩), fun w' hG hg ρ h1 h2 h3 h4 h5 => ?_⟩
     have hG := hid hG
     have f49 : ρ (.tmp 49) = (WTu true (.agg #[.int .i64 T, .int .i64 V, .int .i64 S, .slice a l.length cap])) := h4 15 49 (by kernel_rfl) (by kernel_rfl)
     have f50 : ρ (.tmp 50) = (WTu true (.agg #[.int .i64 T', .int .i64 V', .int .i64 S', .slice a' l'.length cap'])) := h4 16 50 (by kernel_rfl) (by kernel_rfl)
     all_goals
      try dsimp only [WFu, WTu] at *
      clear h4 h5 hg
      unfold OpY
      go_simp
      unfold OpR
      refine (HS1.out _ hG.out).mono ?_
      rintro e' w1 ⟨rfl, hb⟩
      first | exact ⟨_, rfl, rfl, ext_trans hG.out hb⟩ | exact ⟨_, rfl, Or.inr rfl, ext_trans hG.out hb⟩
    ·refine ⟨(fun g b h => by
       obtain ⟨rfl, rfl⟩ := Prod.mk.inj (Option.some.inj h)
       exact ⟨true, rfl, fun h => by first | rfl | exact absurd rfl h⟩), fun w' hG hg ρ h1 h2 h3 h4 h5 => ?_⟩
     have hG := hid hG
     have f2 : ρ (.tmp 2) = .pointer (some ⟨Tb, 0, none⟩) := h5 2 (by kernel_rfl)
     have c0 := (HA.out.below hG.out).cell 0 (v := .int .i64 T) rfl
     have c1 := (HA.out.below hG.out).cell 1 (v := .int .i64 V) rfl
     have c2 := (HA.out.below hG.out).cell 2 (v := .int .i64 S) rfl
     have c3 := (HA.out.below hG.out).cell 3 (v := .slice a l.length cap) rfl
     all_goals
      try dsimp only [WFu, WTu] at *
      clear h4 h5 hg
      unfold OpY
      go_simp
      first | exact ⟨rfl, hG.out⟩ | exact ⟨Or.inr rfl, hG.out⟩ | exact ⟨Or.inl rfl, hG.out⟩
    ·refine ⟨(fun g b h => by
       obtain ⟨rfl, rfl⟩ := Prod.mk.inj (Option.some.inj h)
       exact ⟨true, rfl, fun h => by first | rfl | exact absurd rfl h⟩), fun w' hG hg ρ h1 h2 h3 h4 h5 => ?_⟩
     have hG := hid hG
     have f3 : ρ (.tmp 3) = .pointer (some ⟨Tb + 1, 0, none⟩) := h5 3 (by kernel_rfl)
     have c0 := (HB.out.below hG.out).cell 0 (v := .int .i64 T') rfl
     have c1 := (HB.out.below hG.out).cell 1 (v := .int .i64 V') rfl
     have c2 := (HB.out.below hG.out).cell 2 (v := .int .i64 S') rfl
     have c3 := (HB.out.below hG.out).cell 3 (v := .slice a' l'.length cap') rfl
     all_goals
      try dsimp only [WFu, WTu] at *
      clear h4 h5 hg
      unfold OpY
      go_simp
      first | exact ⟨rfl, hG.out⟩ | exact ⟨Or.inr rfl, hG.out⟩ | exact ⟨Or.inl rfl, hG.out⟩
    ·refine ⟨(fun g b h => by
       obtain ⟨rfl, rfl⟩ := Prod.mk.inj (Option.some.inj h)
       exact ⟨true, rfl, fun h => by first | rfl | exact absurd rfl h⟩), fun w' hG hg ρ h1 h2 h3 h4 h5 => ?_⟩
     have hG := hid hG
     have f52 : ρ (.tmp 52) = (WTu true (.agg #[.int .i64 T, .int .i64 V, .int .i64 S, .slice a l.length cap])) := h4 18 52 (by kernel_rfl) (by kernel_rfl)
     have f53 : ρ (.tmp 53) = (WTu true (.agg #[.int .i64 T', .int .i64 V', .int .i64 S', .slice a' l'.length cap'])) := h4 19 53 (by kernel_rfl) (by kernel_rfl)
     all_goals
      try dsimp only [WFu, WTu] at *
      clear h4 h5 hg
      unfold OpY
      go_simp
      unfold OpR
      refine (HS2.out _ hG.out).mono ?_
      rintro e' w1 ⟨rfl, hb⟩
      first | exact ⟨_, rfl, rfl, ext_trans hG.out hb⟩ | exact ⟨_, rfl, Or.inr rfl, ext_trans hG.out hb⟩
    ·refine ⟨(fun g b h => by
       obtain ⟨rfl, rfl⟩ := Prod.mk.inj (Option.some.inj h)
       exact ⟨true, rfl, fun h => by first | rfl | exact absurd rfl h⟩), fun w' hG hg ρ h1 h2 h3 h4 h5 => ?_⟩
     have hG := hid hG
     have f51 : ρ (.tmp 51) = (WTu true (.bool sb)) := h4 17 51 (by kernel_rfl) (by kernel_rfl)
     have f54 : ρ (.tmp 54) = (WTu true (.bool sb)) := h4 20 54 (by kernel_rfl) (by kernel_rfl)
     cases sb
     all_goals
      try dsimp only [WFu, WTu] at *
      clear h4 h5 hg
      unfold OpY
      go_simp
      first | exact ⟨rfl, hG.out⟩ | exact ⟨Or.inr rfl, hG.out⟩ | exact ⟨Or.inl rfl, hG.out⟩
    ·refine ⟨(fun g b h => by
       obtain ⟨rfl, rfl⟩ := Prod.mk.inj (Option.some.inj h)
       exact ⟨false, rfl, fun h => by first | rfl | exact absurd rfl h⟩), fun w' hG hg ρ h1 h2 h3 h4 h5 => ?_⟩
     have hG := hid hG
     have f48 : ρ (.tmp 48) = (WFu false (.bool true)) := h4 14 48 (by kernel_rfl) (by kernel_rfl)
     have f55 : ρ (.tmp 55) = (WTu true (.bool true)) := h4 21 55 (by kernel_rfl) (by kernel_rfl)
     all_goals
      try dsimp only [WFu, WTu] at *
      clear h4 h5 hg
      unfold OpY
      go_simp
      first | exact ⟨rfl, hG.out⟩ | exact ⟨Or.inr rfl, hG.out⟩ | exact ⟨Or.inl rfl, hG.out⟩
    ·refine ⟨(fun g b h => by cases h), fun w' hG hg ρ h1 h2 h3 h4 h5 => ?_⟩
     have hG := hid hG
     have f40 : ρ (.tmp 40) = (.bool false) := h4 6 40 (by kernel_rfl) (by kernel_rfl)
     have f56 : ρ (.tmp 56) = (WFu false (.bool true)) := h4 22 56 (by kernel_rfl) (by kernel_rfl)
     all_goals
      try dsimp only [WFu, WTu] at *
      clear h4 h5 hg
      unfold OpY
      go_simp
      first | exact ⟨rfl, hG.out⟩ | exact ⟨Or.inr rfl, hG.out⟩ | exact ⟨Or.inl rfl, hG.out⟩
    ·refine ⟨(fun g b h => by cases h), fun w' hG hg ρ h1 h2 h3 h4 h5 => ?_⟩
     have hG := hid hG
     have f57 : ρ (.tmp 57) = (.bool true) := h4 23 57 (by kernel_rfl) (by kernel_rfl)
     all_goals
      try dsimp only [WFu, WTu] at *
      clear h4 h5 hg
      unfold OpY
      go_simp
      first | exact ⟨rfl, hG.out⟩ | exact ⟨Or.inr rfl, hG.out⟩ | exact ⟨Or.inl rfl, hG.out⟩
   case hdone =>
    intro w' hG
    have HG := hid hG
    clear hG
    go_wp2_with fail
    rw [HQ.out]
    exact ⟨rfl, HZ.out _ HG.out⟩
  ·subst hq0
   have j1 : (q' == 0) = false := beq_eq_false_iff_ne.2 hq1
   have j2 : (q' != 0) = true := bne_iff_ne.2 hq1
   clear hq1 HCM
   go_wp2_with fail
   go_quiet (fail)
   go_wp2_with fail
   rw [HQ.out]
   exact ⟨rfl, ext_trans HBd.out (ext_drewN (ext_refl Wd) nq)⟩
 ·have j1 : (q == 0) = false := beq_eq_false_iff_ne.2 hq0
  have j2 : (q != 0) = true := bne_iff_ne.2 hq0
  clear hq0 HCM
  go_wp2_with fail
  go_quiet (fail)
  go_wp2_with fail
  rw [HQ.out]
  exact ⟨rfl, ext_trans HBd.out (ext_drewN (ext_refl Wd) nq)⟩
theorem traceUnlike_any (T V S T' V' S' : Int) (a a' : Option Addr) (l l' : List Ev) (cap cap' : Nat) (w : World) (hE : EvsAt w a l) (hE' : EvsAt w a' l') (hK : KindsAt w) (hT : TabOk w) : Calls Tryz.prog 9 #[trA T V S a l.length cap, trA T' V' S' a' l'.length cap'] w fun e' w' => e' = .returned (.bool true) ∧ Below w.heap.size w w' := by
 by_cases h : l.length ≤ 2000 ∧ l'.length ≤ 2000
 ·exact traceUnlike_small T V S T' V' S' a a' l l' cap cap' w hE hE' hK hT h.1 h.2
 ·exact traceUnlike_great T V S T' V' S' a a' l l' cap cap' w hK hT (by omega)
end Go.Proofs.YtnblhodhkifeeaaGreatDoor
-- halved
