import Derived.Test.YtnblhodhkifeeaaGreatDoorTbGX
import Derived.Test.YtnblhodhkifeeaaGreatDoorTbGE
import Derived.Test.YtnblhodhkifeeaaGreatDoorTrGQ
namespace Go.Proofs.YtnblhodhkifeeaaGreatDoor
set_option linter.unusedVariables false
set_option linter.unusedSimpArgs false
open Go Go.RowKit
theorem evEqB_iff (a b : Ev) : evEqB a b = true ↔ a = b := by
 unfold evEqB
 rw [decide_eq_true_iff]
 constructor
 ·rintro ⟨h1, h2, h3, h4, h5, h6, h7⟩
  exact Ev.ext' h1 h2 h3 h4 h5 h6 h7
 ·intro h; subst h; exact ⟨rfl, rfl, rfl, rfl, rfl, rfl, rfl⟩
theorem take_next {l l' : List Ev} {k : Nat} (h : l.take k = l'.take k) (h1 : k < l.length) (h2 : k < l'.length) (he : l[k] = l'[k]) : l.take (k + 1) = l'.take (k + 1) := by
 rw [List.take_succ_eq_append_getElem h1, List.take_succ_eq_append_getElem h2, h, he]
theorem EvsAt.at7 {w : World} {a : Option Addr} {l : List Ev} (h : EvsAt w a l) (hn : l ≠ []) : ∃ b o, a = some ⟨b, o, none⟩ ∧ ∀ w', Below w.heap.size w w' → ∀ k (hk : k < l.length), w'.cell? ⟨b, o + k * 7, none⟩ = some (.int .u8 l[k].kind) ∧ w'.cell? ⟨b, o + k * 7 + 1, none⟩ = some (.int .i64 l[k].th) ∧ w'.cell? ⟨b, o + k * 7 + 2, none⟩ = some (.int .i64 l[k].tx) ∧ w'.cell? ⟨b, o + k * 7 + 3, none⟩ = some (.int .i64 l[k].at_) ∧ w'.cell? ⟨b, o + k * 7 + 4, none⟩ = some (.int .i64 l[k].v) ∧ w'.cell? ⟨b, o + k * 7 + 5, none⟩ = some (.int .i64 l[k].x) ∧ w'.cell? ⟨b, o + k * 7 + 6, none⟩ = some (.int .u8 l[k].why) := by
 obtain ⟨b, o, ha, hc⟩ := h.2 hn
 refine ⟨b, o, ha, fun w' hb k hk => ?_⟩
 have c0 := later hb (hc k hk 0 (.int .u8 l[k].kind) rfl)
 rw [Nat.add_zero] at c0
 exact ⟨c0, later hb (hc k hk 1 (.int .i64 l[k].th) rfl), later hb (hc k hk 2 (.int .i64 l[k].tx) rfl), later hb (hc k hk 3 (.int .i64 l[k].at_) rfl), later hb (hc k hk 4 (.int .i64 l[k].v) rfl), later hb (hc k hk 5 (.int .i64 l[k].x) rfl), later hb (hc k hk 6 (.int .u8 l[k].why) rfl)⟩
def sameT (T V S : Int) (l : List Ev) (T' V' S' : Int) (l' : List Ev) : Prop := T = T' ∧ V = V' ∧ S = S' ∧ l = l'
def SameP (T V S : Int) (l : List Ev) (T' V' S' : Int) (l' : List Ev) (w : World) (e : Ending) (w' : World) : Prop := (∃ x : Bool, e = .returned (.bool x) ∧ (x = true ↔ sameT T V S l T' V' S' l')) ∧ Below w.heap.size w w'
theorem same_no {T V S : Int} {l : List Ev} {T' V' S' : Int} {l' : List Ev} {w w' : World} (h : ¬ sameT T V S l T' V' S' l') (hb : Below w.heap.size w w') : SameP T V S l T' V' S' l' w (.returned (.bool false)) w' := ⟨⟨false, rfl, (fun h => by cases h), fun h' => absurd h' h⟩, hb⟩
theorem same_yes {T V S : Int} {l : List Ev} {T' V' S' : Int} {l' : List Ev} {w w' : World} (h : sameT T V S l T' V' S' l') (hb : Below w.heap.size w w') : SameP T V S l T' V' S' l' w (.returned (.bool true)) w' := ⟨⟨true, rfl, fun _ => h, fun _ => rfl⟩, hb⟩
def twoW (w : World) (T V S T' V' S' : Int) (v v' : Value) : World := (w.alloc (.cells #[.int .i64 T, .int .i64 V, .int .i64 S, v] 25)).alloc (.cells #[.int .i64 T', .int .i64 V', .int .i64 S', v'] 25)
theorem two_below (w : World) (T V S T' V' S' : Int) (v v' : Value) : Below w.heap.size w (twoW w T V S T' V' S' v v') := ext_alloc (ext_alloc (ext_refl _) _) _
theorem two_a (w : World) (T V S T' V' S' : Int) (v v' : Value) : Blk (twoW w T V S T' V' S' v v') w.heap.size #[.int .i64 T, .int .i64 V, .int .i64 S, v] 25 := (Blk.new w #[.int .i64 T, .int .i64 V, .int .i64 S, v] 25).below (ext_alloc (ext_refl _) _)
theorem two_b (w : World) (T V S T' V' S' : Int) (v v' : Value) : Blk (twoW w T V S T' V' S' v v') (w.heap.size + 1) #[.int .i64 T', .int .i64 V', .int .i64 S', v'] 25 := Blk.new' _ _ _ (by rw [World.size_alloc])
set_option maxRecDepth 100000 in
set_option maxHeartbeats 4000000 in
theorem refSame_any (T V S T' V' S' : Int) (a a' : Option Addr) (l l' : List Ev) (cap cap' : Nat) (w : World) (hE : EvsAt w a l) (hE' : EvsAt w a' l') (hl : l.length ≤ 4611686018427387904) (hl' : l'.length ≤ 4611686018427387904) :
  Calls Tryz.prog 17 #[trA T V S a l.length cap, trA T' V' S' a' l'.length cap'] w (SameP T V S l T' V' S' l' w) := by
 obtain ⟨W1, hW1⟩ : ∃ W1, W1 = twoW w T V S T' V' S' (.slice a l.length cap) (.slice a' l'.length cap') := ⟨_, rfl⟩
 have hb1 : Below w.heap.size w W1 := by rw [hW1]; exact two_below ..
 have ha := two_a w T V S T' V' S' (.slice a l.length cap) (.slice a' l'.length cap')
 have hb := two_b w T V S T' V' S' (.slice a l.length cap) (.slice a' l'.length cap')
 rw [← hW1] at ha hb
 have a0 := ha.cell 0 (v := .int .i64 T) rfl
 have a1 := ha.cell 1 (v := .int .i64 V) rfl
 have a2 := ha.cell 2 (v := .int .i64 S) rfl
 have a3 := ha.cell 3 (v := .slice a l.length cap) rfl
 have b0 := hb.cell 0 (v := .int .i64 T') rfl
 have b1 := hb.cell 1 (v := .int .i64 V') rfl
 have b2 := hb.cell 2 (v := .int .i64 S') rfl
 have b3 := hb.cell 3 (v := .slice a' l'.length cap') rfl
 have HNO := hid (fun w' (hb : Below w.heap.size w w') (h : ¬ sameT T V S l T' V' S' l') => same_no h hb)
 have HYES := hid (fun w' (hb : Below w.heap.size w w') (h : sameT T V S l T' V' S' l') => same_yes h hb)
 have HB1 := hid hb1
 have HA := hid ha
 have HB := hid hb
 obtain ⟨Q, hQ⟩ : ∃ Q : Ending → World → Prop, Q = SameP T V S l T' V' S' l' w := ⟨_, rfl⟩
 rw [← hQ] at HNO HYES ⊢
 dsimp only [trA]
 unfold twoW at hW1
 have HW1 := hid hW1
 have HE := hid hE
 have HE' := hid hE'
 have HL := hid hl
 clear ha hb hE hE' hl hl' hb1 hQ hW1
 by_cases h1 : T = T'
 case neg =>
  have j1 : (T != T') = true := bne_iff_ne.2 h1
  have HN := hid (fun h : sameT T V S l T' V' S' l' => h1 h.1)
  clear h1
  go_enter Tryz.func17, Tryz.ntmps17
  go_wp2_with (rw [← HW1.out]; go_simp)
  exact HNO.out _ HB1.out HN.out
 subst h1
 by_cases h1 : V = V'
 case neg =>
  have j1 : (V != V') = true := bne_iff_ne.2 h1
  have HN := hid (fun h : sameT T V S l T V' S' l' => h1 h.2.1)
  clear h1
  go_enter Tryz.func17, Tryz.ntmps17
  go_wp2_with (rw [← HW1.out]; go_simp)
  exact HNO.out _ HB1.out HN.out
 subst h1
 by_cases h1 : S = S'
 case neg =>
  have j1 : (S != S') = true := bne_iff_ne.2 h1
  have HN := hid (fun h : sameT T V S l T V S' l' => h1 h.2.2.1)
  clear h1
  go_enter Tryz.func17, Tryz.ntmps17
  go_wp2_with (rw [← HW1.out]; go_simp)
  exact HNO.out _ HB1.out HN.out
 subst h1
 by_cases h1 : l.length = l'.length
 case neg =>
  have j1 : ((l.length : Int) != (l'.length : Int)) = true := by rw [bne_iff_ne]; omega
  have j2 : (l.length != l'.length) = true := by rw [bne_iff_ne]; omega
  have HN := hid (fun h : sameT T V S l T V S l' => h1 (by rw [h.2.2.2]))
  clear h1
  go_enter Tryz.func17, Tryz.ntmps17
  go_wp2_with (rw [← HW1.out]; go_simp)
  exact HNO.out _ HB1.out HN.out
 have HLN := hid h1
 rw [← h1] at b3 HB HW1 ⊢
 have j2 : ((l.length : Int) != (l.length : Int)) = false := by simp
 clear h1
 go_enter Tryz.func17, Tryz.ntmps17
 go_wp2_with (rw [← HW1.out]; go_simp)
 clear a0 a1 a2 a3 b0 b1 b2 b3
 go_loopw [5] (fun i wr => ∃ k : Nat, k ≤ l.length ∧ i = .int .i64 (k : Int) ∧ Hid (l.take k = l'.take k) ∧ Hid (Below W1.heap.size W1 wr)) (fun i _ => l.length - (intOf i).toNat)
 case atStart => exact ⟨0, Nat.zero_le _, rfl, hid rfl, hid (ext_refl _)⟩
 case round =>
  obtain ⟨k, hk, rfl, HT, HBR⟩ := hrel
  have a3 := (HA.out.below HBR.out).cell 3 (v := .slice a l.length cap) rfl
  have b3 := (HB.out.below HBR.out).cell 3 (v := .slice a' l.length cap') rfl
  have HBW := hid (ext_trans HB1.out HBR.out)
  by_cases hlt : k < l.length
  ·have j1 : decide ((k : Int) < (l.length : Int)) = true := by rw [decide_eq_true_iff]; omega
   have j3 : (0 : Int) ≤ (k : Int) := by omega
   have j4 : decide (k < l.length) = true := by rw [decide_eq_true_iff]; omega
   have j5 : (k : Int) < (l.length : Int) := by omega
   have j6 : IntKind.i64.wrap ((k : Int) + 1) = (k : Int) + 1 := IntWalk.i64_in _ (by have := HL.out; omega)
   obtain ⟨b, o, rfl, hc⟩ := HE.out.at7 (by intro h; rw [h] at hlt; simp at hlt)
   obtain ⟨b', o', rfl, hc'⟩ := HE'.out.at7 (by intro h; have := HLN.out; rw [h, List.length_nil] at this; omega)
   have hlt' : k < l'.length := by have := HLN.out; omega
   obtain ⟨c0, c1, c2, c3, c4, c5, c6⟩ := hc wr HBW.out k hlt
   obtain ⟨d0, d1, d2, d3, d4, d5, d6⟩ := hc' wr HBW.out k hlt'
   have hq := fun w' => run_eql_ev l[k] l'[k] w'
   unfold Op.equal Op.maxDepth at hq
   have HLT := hid (And.intro hlt hlt')
   have HX := hid (evEqB_iff l[k] l'[k])
   have HNX := hid (fun he => take_next HT.out hlt hlt' he)
   have HNE := hid (fun (he : ¬ l[k] = l'[k]) (h : sameT T V S l T V S l') => he (by simp [h.2.2.2]))
   generalize l[k] = x at *
   generalize l'[k] = x' at *
   clear hc hc' hlt hlt' hk
   by_cases he : evEqB x x' = true
   ·rw [he] at hq
    have HEQ := hid (HX.out.1 he)
    clear he
    go_wp2_with fail
    go_quiet (fail)
    have HB2 := hid (ext_trans HBR.out (ext_drewN (ext_refl wr) nq))
    clear c0 c1 c2 c3 c4 c5 c6 d0 d1 d2 d3 d4 d5 d6 hq a3 b3
    go_wp2_with fail
    go_roundw
    case rel => exact ⟨k + 1, by have := HLT.out; omega, by simp, hid (HNX.out HEQ.out), HB2⟩
    case measure => have := HLT.out; simp [intOf]; omega
   ·have hef : evEqB x x' = false := by cases h : evEqB x x' with | false => rfl | true => exact absurd h he
    rw [hef] at hq
    have HNE' := hid (HNE.out (fun h : x = x' => he (HX.out.2 h)))
    clear he hef
    go_wp2_with fail
    go_quiet (fail)
    have HB2 := hid (ext_trans HBW.out (ext_drewN (ext_refl wr) nq))
    clear c0 c1 c2 c3 c4 c5 c6 d0 d1 d2 d3 d4 d5 d6 hq a3 b3
    go_wp2_with fail
    exact HNO.out _ HB2.out HNE'.out
  ·obtain rfl : k = l.length := by omega
   have j1 : decide ((l.length : Int) < (l.length : Int)) = false := by rw [decide_eq_false_iff_not]; omega
   have j4 : decide (l.length < l.length) = false := by rw [decide_eq_false_iff_not]; omega
   have HEQ : Hid (l = l') := hid (by
    have h := HT.out
    rwa [List.take_length, HLN.out, List.take_length] at h)
   clear hlt hk
   go_wp2_with fail
   exact HYES.out _ HBW.out ⟨rfl, rfl, rfl, HEQ.out⟩
set_option maxRecDepth 100000 in
set_option maxHeartbeats 4000000 in
theorem framed_any (b : ByteArray) (w : World) (hb : b.size ≤ 20000) : Calls Tryz.prog 18 #[.string b] w fun e w' => e = .returned (.string (bstr (frameL (byt b)))) ∧ Below w.heap.size w w' := by
 have h := wrap_x b w (by omega)
 rw [(unwrap_wrap (b := byt b) (by rw [byt_len]; omega) (byt_lt b)).1] at h
 have HW := hid h
 clear h hb
 obtain ⟨Q, hQ⟩ : ∃ Q : Ending → World → Prop, Q = fun e w' => e = .returned (.string (bstr (frameL (byt b)))) ∧ Below w.heap.size w w' := ⟨_, rfl⟩
 rw [← hQ]
 have HQ := hid hQ
 clear hQ
 go_enter Tryz.func18, Tryz.ntmps18
 go_wp2_with fail
 refine HW.out.mono ?_
 rintro e' w1 ⟨rfl, hb1⟩
 go_wp2_with fail
 rw [HQ.out]
 exact ⟨by unfold frameL; rw [List.append_assoc]; rfl, hb1⟩
theorem dec_enc {T V S : Int} {l : List Ev} (hx : ∀ e ∈ l, -9223372036854775808 ≤ e.x ∧ e.x ≤ 9223372036854775807) (h : (checkT T V S l).2 = 0) : decL (frameL (bodyL T V S l)) = (⟨T.toNat, V.toNat, S.toNat, l⟩, 0, 0) := by
 have hl := bodyL_len hx h
 have hu := (unwrap_wrap (b := bodyL T V S l) (by omega) (bodyL_byte T V S l)).2
 exact decL_good hu (body_back hx h) rfl
set_option maxRecDepth 100000 in
set_option maxHeartbeats 4000000 in
theorem back_yes (T V S : Int) (a : Option Addr) (l : List Ev) (cap : Nat) (w : World) (hE : EvsAt w a l) (hK : KindsAt w) (hT : TabOk w) (hc : (checkT T V S l).2 = 0) : Calls Tryz.prog 16 #[trA T V S a l.length cap] w fun e' w' => e' = .returned (.bool true) ∧ Below w.heap.size w w' := by
 obtain ⟨W1, hW1⟩ : ∃ W1, W1 = w.alloc (.cells #[.int .i64 T, .int .i64 V, .int .i64 S, .slice a l.length cap] 25) := ⟨_, rfl⟩
 have hb1 : Below w.heap.size w W1 := by rw [hW1]; exact ext_alloc (ext_refl _) _
 have hx1 : Blk W1 w.heap.size #[.int .i64 T, .int .i64 V, .int .i64 S, .slice a l.length cap] 25 := by rw [hW1]; exact Blk.new _ _ _
 have hxs : ∀ e ∈ l, -9223372036854775808 ≤ e.x ∧ e.x ≤ 9223372036854775807 := fun e he => (hE.1 e he).2.2.2.2.2.1
 have hln := bodyL_len hxs hc
 have hz := (told_of_check hxs hc).1
 have hsz : 0 ≤ T ∧ T ≤ 6 ∧ 1 ≤ V ∧ V ≤ 32 ∧ 1 ≤ S ∧ S ≤ V := by unfold sizeOk at hz; exact of_decide_eq_true hz
 have hen := enc_any T V S a l cap W1 (hE.below hb1) (hK.below hb1) (hT.below hb1)
 unfold EncP at hen
 rw [if_pos hc, hc] at hen
 have hfl : ∀ x ∈ frameL (bodyL T V S l), x < 256 := frameL_lt (bodyL_byte T V S l)
 obtain ⟨f, hf⟩ : ∃ f, f = bstr (frameL (bodyL T V S l)) := ⟨_, rfl⟩
 have hbf : byt f = frameL (bodyL T V S l) := by rw [hf]; exact byt_bstr hfl
 have hfs : f.size ≤ 9223372036854775807 := by rw [← byt_len, hbf, frameL_len]; have := putN_ten (bodyL T V S l).length; omega
 rw [← hf] at hen
 have HD := hid (fun w' (hb : Below w.heap.size w w') => dec_any f w' hfs (hK.below hb) (hT.below hb))
 rw [hbf, dec_enc hxs hc] at HD
 unfold DecP at HD
 dsimp only [trA] at HD hen ⊢
 have HEN := hid hen
 have HE := hid hE
 have HB1 := hid hb1
 have HX1 := hid hx1
 have HW1 := hid hW1
 have HL := hid hln.2
 have e1 : ((T.toNat : Nat) : Int) = T := by omega
 have e2 : ((V.toNat : Nat) : Int) = V := by omega
 have e3 : ((S.toNat : Nat) : Int) = S := by omega
 rw [e1, e2, e3] at HD
 obtain ⟨Q, hQ⟩ : ∃ Q : Ending → World → Prop, Q = fun e' w' => e' = .returned (.bool true) ∧ Below w.heap.size w w' := ⟨_, rfl⟩
 rw [← hQ]
 have HQ := hid hQ
 clear hE hK hT hc hb1 hx1 hxs hln hz hsz hen hfl hf hbf hfs hW1 hQ e1 e2 e3
 go_enter Tryz.func16, Tryz.ntmps16
 go_wp2_with fail
 rw [← HW1.out]
 refine HEN.out.mono ?_
 rintro e' W2 ⟨rfl, hb2⟩
 have HX2 := hid (HX1.out.below hb2)
 have HB2 := hid (ext_trans HB1.out hb2)
 have HDE := hid (HD.out W2 HB2.out)
 clear hb2 HD HX1 HB1 HW1 HEN
 go_wp2_with fail
 refine HDE.out.mono ?_
 rintro e' W3 ⟨av, cv, rfl, hev, hb3⟩
 obtain ⟨W4, hW4⟩ : ∃ W4, W4 = W3.alloc (.cells #[.int .i64 T, .int .i64 V, .int .i64 S, .slice av l.length cv] 25) := ⟨_, rfl⟩
 have hb4 : Below W3.heap.size W3 W4 := by rw [hW4]; exact ext_alloc (ext_refl _) _
 have hx4 : Blk W4 W3.heap.size #[.int .i64 T, .int .i64 V, .int .i64 S, .slice av l.length cv] 25 := by rw [hW4]; exact Blk.new _ _ _
 have a0 := ((HX2.out.below hb3).below hb4).cell 0 (v := .int .i64 T) rfl
 have a1 := ((HX2.out.below hb3).below hb4).cell 1 (v := .int .i64 V) rfl
 have a2 := ((HX2.out.below hb3).below hb4).cell 2 (v := .int .i64 S) rfl
 have a3 := ((HX2.out.below hb3).below hb4).cell 3 (v := .slice a l.length cap) rfl
 have b0 := hx4.cell 0 (v := .int .i64 T) rfl
 have b1 := hx4.cell 1 (v := .int .i64 V) rfl
 have b2 := hx4.cell 2 (v := .int .i64 S) rfl
 have b3 := hx4.cell 3 (v := .slice av l.length cv) rfl
 have HSM := hid (refSame_any T V S T V S a av l l cap cv W4 (HE.out.below (ext_trans (ext_trans HB2.out hb3) hb4)) (hev.below hb4) (by have := HL.out; omega) (by have := HL.out; omega))
 dsimp only [trA] at HSM
 have HB4 := hid (ext_trans (ext_trans HB2.out hb3) hb4)
 have HW4 := hid hW4
 clear hb3 hev hb4 hx4 hW4 HX2 HB2 HDE
 go_wp2_with (rw [← HW4.out]; go_simp)
 refine HSM.out.mono ?_
 rintro e' W5 ⟨⟨x, rfl, hx⟩, hb5⟩
 have hxt : x = true := hx.2 ⟨rfl, rfl, rfl, rfl⟩
 subst hxt
 have HB5 := hid (ext_trans HB4.out hb5)
 clear hx hb5
 go_wp2_with fail
 rw [HQ.out]
 exact ⟨by rfl, HB5.out⟩
def l1 : List Ev := [⟨1, 0, 0, 0, 0, 0, 0⟩, ⟨7, 0, 0, 0, 0, 0, 0⟩]
theorem evs_l1 {w : World} {b : Nat} {t : TypeId} (h : Blk w b #[.int .u8 1, .int .i64 0, .int .i64 0, .int .i64 0, .int .i64 0, .int .i64 0, .int .u8 0, .int .u8 7, .int .i64 0, .int .i64 0, .int .i64 0, .int .i64 0, .int .i64 0, .int .u8 0] t) : EvsAt w (some ⟨b, 0, none⟩) l1 := by
 refine ⟨?_, fun _ => ⟨b, 0, rfl, fun k hk j v hv => ?_⟩⟩
 ·intro e he
  simp only [l1, List.mem_cons, List.not_mem_nil, or_false] at he
  rcases he with rfl | rfl <;> (unfold EvOk; dsimp only; omega)
 ·have hk2 : k = 0 ∨ k = 1 := by have : k < 2 := hk; omega
  rw [Nat.zero_add]
  rcases hk2 with rfl | rfl
  ·match j, hv with
   | 0, hv | 1, hv | 2, hv | 3, hv | 4, hv | 5, hv | 6, hv => exact h.cell _ hv
   | j + 7, hv => simp [l1, evL] at hv
  ·match j, hv with
   | 0, hv | 1, hv | 2, hv | 3, hv | 4, hv | 5, hv | 6, hv => exact h.cell _ hv
   | j + 7, hv => simp [l1, evL] at hv
set_option maxRecDepth 100000 in
set_option maxHeartbeats 4000000 in
theorem one_any (w : World) : Calls Tryz.prog 11 #[] w fun e' w' => (∃ g, e' = .returned (trA 1 1 1 (some ⟨g, 0, none⟩) 2 2) ∧ EvsAt w' (some ⟨g, 0, none⟩) l1) ∧ Below w.heap.size w w' := by
 obtain ⟨Q, hQ⟩ : ∃ Q : Ending → World → Prop, Q = fun e' w' => (∃ g, e' = .returned (trA 1 1 1 (some ⟨g, 0, none⟩) 2 2) ∧ EvsAt w' (some ⟨g, 0, none⟩) l1) ∧ Below w.heap.size w w' := ⟨_, rfl⟩
 rw [← hQ]
 have HQ := hid hQ
 clear hQ
 go_enter Tryz.func11, Tryz.ntmps11
 go_wp2_with fail
 have hbx := (Blk.new w #[.int .i64 1, .int .i64 1, .int .i64 1, .slice (some ⟨w.heap.size + 1, 0, none⟩) 2 2] 25).below (ext_alloc (ext_refl _) (.cells #[.int .u8 1, .int .i64 0, .int .i64 0, .int .i64 0, .int .i64 0, .int .i64 0, .int .u8 0, .int .u8 7, .int .i64 0, .int .i64 0, .int .i64 0, .int .i64 0, .int .i64 0, .int .u8 0] 50))
 have hev := Blk.new' (w.alloc (.cells #[.int .i64 1, .int .i64 1, .int .i64 1, .slice (some ⟨w.heap.size + 1, 0, none⟩) 2 2] 25)) #[.int .u8 1, .int .i64 0, .int .i64 0, .int .i64 0, .int .i64 0, .int .i64 0, .int .u8 0, .int .u8 7, .int .i64 0, .int .i64 0, .int .i64 0, .int .i64 0, .int .i64 0, .int .u8 0] 50 (b := w.heap.size + 1) (by rw [World.size_alloc])
 have q0 := hbx.cell 0 (v := .int .i64 1) rfl
 have q1 := hbx.cell 1 (v := .int .i64 1) rfl
 have q2 := hbx.cell 2 (v := .int .i64 1) rfl
 have q3 := hbx.cell 3 (v := .slice (some ⟨w.heap.size + 1, 0, none⟩) 2 2) rfl
 refine bodyPost_ret (v := .agg #[.int .i64 1, .int .i64 1, .int .i64 1, .slice (some ⟨w.heap.size + 1, 0, none⟩) 2 2]) (by simp [results, Tryz.results11, go_sem, q0, q1, q2, q3]) rfl ?_
 rw [HQ.out]
 exact ⟨⟨w.heap.size + 1, rfl, evs_l1 hev⟩, ext_alloc (ext_alloc (ext_refl _) _) _⟩
theorem chk0 : (checkT 0 1 1 []).2 = 0 := by decide
theorem chk1 : (checkT 1 1 1 l1).2 = 0 := by decide +kernel
theorem body0 : bodyL 0 1 1 [] = [0, 1, 1, 0] := by decide +kernel
theorem body1 : bodyL 1 1 1 l1 = [1, 1, 1, 2, 0, 0, 0, 6, 0] := by decide +kernel
set_option maxRecDepth 100000 in
set_option maxHeartbeats 4000000 in
theorem works_any (w : World) (hK : KindsAt w) (hT : TabOk w) : Calls Tryz.prog 10 #[] w fun e' w' => e' = .returned (.bool true) ∧ Below w.heap.size w w' := by
 obtain ⟨W1, hW1⟩ : ∃ W1, W1 = w.alloc (.cells #[.int .i64 0, .int .i64 1, .int .i64 1, .slice none 0 0] 25) := ⟨_, rfl⟩
 have hb1 : Below w.heap.size w W1 := by rw [hW1]; exact ext_alloc (ext_refl _) _
 have hx1 : Blk W1 w.heap.size #[.int .i64 0, .int .i64 1, .int .i64 1, .slice none 0 0] 25 := by rw [hW1]; exact Blk.new _ _ _
 have HK := hid hK
 have HT := hid hT
 have HB1 := hid hb1
 have HX1 := hid hx1
 have HW1 := hid hW1
 have H0 := hid (fun w' (hb : Below w.heap.size w w') => enc_any 0 1 1 none [] 0 w' (EvsAt.nil _) (hK.below hb) (hT.below hb))
 unfold EncP at H0
 rw [if_pos chk0, chk0, body0] at H0
 have H1 := hid (fun w' (hb : Below w.heap.size w w') g (he : EvsAt w' (some ⟨g, 0, none⟩) l1) => enc_any 1 1 1 (some ⟨g, 0, none⟩) l1 2 w' he (hK.below hb) (hT.below hb))
 unfold EncP at H1
 rw [if_pos chk1, chk1, body1] at H1
 have F0 := hid (fun w' => framed_any ⟨#[0, 1, 1, 0]⟩ w' (by decide))
 rw [show byt ⟨#[0, 1, 1, 0]⟩ = [0, 1, 1, 0] from rfl] at F0
 have F1 := hid (fun w' => framed_any ⟨#[1, 1, 1, 2, 0, 0, 0, 6, 0]⟩ w' (by decide))
 rw [show byt ⟨#[1, 1, 1, 2, 0, 0, 0, 6, 0]⟩ = [1, 1, 1, 2, 0, 0, 0, 6, 0] from rfl] at F1
 have B0 := hid (fun w' (hb : Below w.heap.size w w') => back_yes 0 1 1 none [] 0 w' (EvsAt.nil _) (hK.below hb) (hT.below hb) chk0)
 have B1 := hid (fun w' (hb : Below w.heap.size w w') g (he : EvsAt w' (some ⟨g, 0, none⟩) l1) => back_yes 1 1 1 (some ⟨g, 0, none⟩) l1 2 w' he (hK.below hb) (hT.below hb) chk1)
 dsimp only [trA, List.length_nil] at H0 H1 B0 B1
 have ON := hid one_any
 dsimp only [trA] at ON
 rw [show l1.length = 2 from rfl] at H1 B1
 generalize bstr (frameL [0, 1, 1, 0]) = f0 at H0 F0
 generalize bstr (frameL [1, 1, 1, 2, 0, 0, 0, 6, 0]) = f1 at H1 F1
 obtain ⟨Q, hQ⟩ : ∃ Q : Ending → World → Prop, Q = fun e' w' => e' = .returned (.bool true) ∧ Below w.heap.size w w' := ⟨_, rfl⟩
 rw [← hQ]
 have HQ := hid hQ
 clear hK hT hb1 hx1 hW1 hQ
 go_enter Tryz.func10, Tryz.ntmps10
 go_wp2_with fail
 rw [← HW1.out]
 refine (H0.out W1 HB1.out).mono ?_
 rintro e' W2 ⟨rfl, hb2⟩
 have HB2 := hid (ext_trans HB1.out hb2)
 have HX2 := hid (HX1.out.below hb2)
 clear hb2 HX1 HB1 HW1
 go_wp2_with fail
 refine (ON.out W2).mono ?_
 rintro e' W3 ⟨⟨g, rfl, hev⟩, hb3⟩
 have HB3 := hid (ext_trans HB2.out hb3)
 have HX3 := hid (HX2.out.below hb3)
 have HEV := hid hev
 clear hb3 hev HX2 HB2
 go_wp2_with fail
 refine (H1.out W3 HB3.out g HEV.out).mono ?_
 rintro e' W4 ⟨rfl, hb4⟩
 have HB4 := hid (ext_trans HB3.out hb4)
 have HX4 := hid (HX3.out.below hb4)
 clear hb4 HX3 HB3 HEV
 go_wp2_with fail
 refine (F0.out W4).mono ?_
 rintro e' W5 ⟨rfl, hb5⟩
 have HB5 := hid (ext_trans HB4.out hb5)
 have HX5 := hid (HX4.out.below hb5)
 clear hb5 HX4 HB4
 go_wp2_with fail
 refine (F1.out W5).mono ?_
 rintro e' W6 ⟨rfl, hb6⟩
 have HB6 := hid (ext_trans HB5.out hb6)
 have hx6 := HX5.out.below hb6
 have x0 := hx6.cell 0 (v := .int .i64 0) rfl
 have x1 := hx6.cell 1 (v := .int .i64 1) rfl
 have x2 := hx6.cell 2 (v := .int .i64 1) rfl
 have x3 := hx6.cell 3 (v := .slice none 0 0) rfl
 clear hb6 hx6 HX5 HB5
 go_wp2_with fail
 refine (B0.out W6 HB6.out).mono ?_
 rintro e' W7 ⟨rfl, hb7⟩
 have HB7 := hid (ext_trans HB6.out hb7)
 clear hb7 x0 x1 x2 x3 HB6
 go_wp2_with fail
 refine (ON.out W7).mono ?_
 rintro e' W8 ⟨⟨g8, rfl, hev⟩, hb8⟩
 have HB8 := hid (ext_trans HB7.out hb8)
 have HEV := hid hev
 clear hb8 hev HB7
 go_wp2_with fail
 refine (B1.out W8 HB8.out g8 HEV.out).mono ?_
 rintro e' W9 ⟨rfl, hb9⟩
 have HB9 := hid (ext_trans HB8.out hb9)
 clear hb9
 go_wp2_with fail
 rw [HQ.out]
 exact ⟨by rfl, HB9.out⟩
theorem decL_frame {s u : List Nat} {q e : Nat} (hu : unwrapL s = (u, q, e)) (he : e ≠ 0) : decL s = (Tr.zero, q, e) := by
 unfold decL
 rw [hu]
 dsimp only
 rw [if_pos he]
end Go.Proofs.YtnblhodhkifeeaaGreatDoor
