/-
  Walk: DeltaSmall.
-/
import Derived.Test.YtokkafiphchejaaDoorDeLb
namespace Go.Proofs.YtokkafiphchejaaDoor
set_option linter.unusedVariables false
set_option linter.unusedSimpArgs false
set_option linter.unusedVariables false
open Go Go.RowKit
/-- Events in memory, one behind the other. -/
def EvsAt (w : World) (a : Option Addr) (l : List Ev) : Prop :=
  (∀ e ∈ l, EvOk e) ∧ (l ≠ [] → ∃ b o, a = some ⟨b, o, none⟩ ∧ ∀ k (h : k < l.length) j v, (evL l[k])[j]? = some v → w.cell? ⟨b, o + k * 7 + j, none⟩ = some v)
theorem EvsAt.below {w w' : World} {a : Option Addr} {l : List Ev} (hb : Below w.heap.size w w') (h : EvsAt w a l) : EvsAt w' a l :=
  ⟨h.1, fun hn => by
    obtain ⟨b, o, h1, h2⟩ := h.2 hn
    exact ⟨b, o, h1, fun k hk j v hv => later hb (h2 k hk j v hv)⟩⟩
theorem mayLoad {t a x : Int} (ht : 0 ≤ t ∧ t < 6) (ha : 0 ≤ a ∧ a < 32) (c : Cdr) : tellsC 6 32 32 c ⟨3, t, 0, a, 0, x, 0⟩ = true := by
  simp [tellsC, mayE, sizesB, leastV, placesE, bareE]
  omega
theorem mayFree {t a : Int} (ht : 0 ≤ t ∧ t < 6) (ha : 0 ≤ a ∧ a < 32) (c : Cdr) : tellsC 6 32 32 c ⟨9, t, 0, a, 0, 0, 0⟩ = true := by
  simp [tellsC, mayE, sizesB, leastV, placesE, bareE]
  omega
theorem u64_rem (x m : Int) : (IntKind.u64.wrap x).tmod m = x % 18446744073709551616 % m := by
  have : IntKind.u64.wrap x = x % 18446744073709551616 := by simp [IntKind.wrap, IntKind.bits, IntKind.signed]
  rw [this, Int.tmod_eq_emod_of_nonneg (by omega)]
theorem knows_load (c : Cdr) (t a x : Int) : (knowsC c ⟨3, t, 0, a, 0, x, 0⟩).last = t ∧ (knowsC c ⟨3, t, 0, a, 0, x, 0⟩).x a = x := by
  simp [knowsC, upd]
set_option maxRecDepth 100000 in
set_option maxHeartbeats 4000000 in
theorem small_great (a : Option Addr) (n cap : Nat) (x y : Int) (W : World) (hKd : KindsAt W) (hn : 400 < n) : Calls Tryd.prog 3 #[.slice a n cap, .int .i64 x, .int .i64 y] W fun e' W' => e' = .returned (.bool true) ∧ Below W.heap.size W W' := by
  have HAW := hid (awake_any W hKd)
  have g1 : decide ((400 : Int) < (n : Int)) = true := by rw [decide_eq_true_iff]; omega
  have g2 : decide (400 < n) = true := by rw [decide_eq_true_iff]; omega
  clear hn hKd
  obtain ⟨Q, hQ⟩ : ∃ Q : Ending → World → Prop, Q = fun e' W' => e' = .returned (.bool true) ∧ Below W.heap.size W W' := ⟨_, rfl⟩
  rw [← hQ]
  have HQ := hid hQ
  clear hQ
  go_enter Tryd.func3, Tryd.ntmps3
  go_wp2_with fail
  refine HAW.out.mono ?_
  rintro e' W1 ⟨rfl, hb1⟩
  go_wp2_with fail
  rw [HQ.out]
  exact ⟨rfl, hb1⟩
set_option maxRecDepth 100000 in
set_option maxHeartbeats 2000000 in
theorem small_any (a : Option Addr) (l : List Ev) (cap : Nat) (x y : Int) (W : World) (hE : EvsAt W a l) (hKd : KindsAt W) (hl : l.length ≤ 400) (hx : -9223372036854775808 ≤ x ∧ x ≤ 9223372036854775807) (hy : -9223372036854775808 ≤ y ∧ y ≤ 9223372036854775807) :
    Calls Tryd.prog 3 #[.slice a l.length cap, .int .i64 x, .int .i64 y] W fun e' W' => e' = .returned (.bool true) ∧ Below W.heap.size W W' := by
  have HAW := hid (awake_any W hKd)
  have g1 : decide ((400 : Int) < (l.length : Int)) = false := by rw [decide_eq_false_iff_not]; omega
  have HE := hid hE
  have HK := hid hKd
  have HL := hid hl
  have HX := hid hx
  have HY := hid hy
  clear hE hKd hl hx hy
  obtain ⟨Q, hQ⟩ : ∃ Q : Ending → World → Prop, Q = fun e' W' => e' = .returned (.bool true) ∧ Below W.heap.size W W' := ⟨_, rfl⟩
  rw [← hQ]
  have HQ := hid hQ
  clear hQ
  go_enter Tryd.func3, Tryd.ntmps3
  go_wp2_with fail
  refine HAW.out.mono ?_
  rintro e' W0 ⟨rfl, hb0⟩
  have HB0 := hid hb0
  have HN := hid (new_any 6 32 32 W0 (HK.out.below hb0) (by decide))
  clear hb0 HAW
  go_wp2_with fail
  refine HN.out.mono ?_
  rintro e' W1 ⟨C, rfl, hC0, hC, hb1⟩
  have HC := hid hC
  have HC0 := hid (Nat.le_trans HB0.out.size hC0)
  have HB1 := hid (ext_trans HB0.out hb1)
  clear hC hC0 hb1 HN
  go_wp2_with fail
  refine (newWriter_any 16777216 W1 ⟨by omega, by omega⟩).mono ?_
  rintro e' W2 ⟨rfl, hw2, hb2⟩
  have hb02 := ext_trans HB1.out hb2
  have D0 : Wd 6 32 32 newC C W1.heap.size 16777216 [] (W1.heap.size + 1) (.slice none 0 0) W2 := ⟨HC.out.below hb2, WrtO.new hw2, okC_new (by omega), ⟨⟨by omega, by omega⟩, ⟨by omega, by omega⟩, ⟨by omega, by omega⟩⟩, by have := HC.out.lt; omega, by have := HC.out.lt; omega, hw2.lt, ⟨by omega, by omega⟩⟩
  have hb0 := HB1.out.size
  obtain ⟨b, hb⟩ : ∃ b, b = W1.heap.size := ⟨_, rfl⟩
  rw [← hb] at D0 hb0 ⊢
  clear hb hw2 hb2
  have HB0' := hid hb0
  have HD0 := hid D0
  have HB02 := hid hb02
  clear D0 hb0 hb02 HB1 HB0 HC
  go_wp2_with fail
  go_loopw [11] (fun i wr => ∃ (k : Nat) (c : Cdr) (bs : List Nat) (u : Value), k ≤ l.length ∧ i = .int .i64 (k : Int) ∧ Hid (Wd 6 32 32 c C b 16777216 bs (b + 1) u wr) ∧ Hid (bs.length ≤ 12 * k) ∧ Hid (Below W.heap.size W wr)) (fun i _ => l.length - (intOf i).toNat)
  case atStart => exact ⟨0, _, _, _, Nat.zero_le _, rfl, HD0, hid (by simp), HB02⟩
  case round =>
    obtain ⟨k, c, bs, u, hkl, rfl, HD, HBS, HBR⟩ := hrel
    have HKL := hid hkl
    by_cases hlt : k < l.length
    · have j1 : decide ((k : Int) < (l.length : Int)) = true := by rw [decide_eq_true_iff]; omega
      have j2 : (0 : Int) ≤ (k : Int) := by omega
      have j3 : IntKind.i64.wrap ((k : Int) + 1) = (k : Int) + 1 := IntWalk.i64_in _ (by have := HL.out; omega)
      have j4 : decide (k < l.length) = true := by rw [decide_eq_true_iff]; omega
      obtain ⟨b', o, rfl, hcell⟩ := HE.out.2 (by intro h; rw [h] at hlt; simp at hlt)
      have HOK := hid (HE.out.1 l[k] (List.getElem_mem hlt))
      rcases hek : l[k] with ⟨kind, th, tx, at_, v, x', why⟩
      have e0 := later HBR.out (hcell k hlt 0 (.int .u8 kind) (by rw [hek]; rfl))
      have e1 := later HBR.out (hcell k hlt 1 (.int .i64 th) (by rw [hek]; rfl))
      have e2 := later HBR.out (hcell k hlt 2 (.int .i64 tx) (by rw [hek]; rfl))
      have e3 := later HBR.out (hcell k hlt 3 (.int .i64 at_) (by rw [hek]; rfl))
      have e4 := later HBR.out (hcell k hlt 4 (.int .i64 v) (by rw [hek]; rfl))
      have e5 := later HBR.out (hcell k hlt 5 (.int .i64 x') (by rw [hek]; rfl))
      have e6 := later HBR.out (hcell k hlt 6 (.int .u8 why) (by rw [hek]; rfl))
      rw [Nat.add_zero] at e0
      rw [hek] at HOK
      have HLT := hid hlt
      clear hcell hek hlt hkl
      go_wp2_with fail
      have hkd := HK.out.below HBR.out
      cases ht : tellsC 6 32 32 c ⟨kind, th, tx, at_, v, x', why⟩ with
      | true =>
        refine (wr_yes HD.out hkd HOK.out ht (by have := HBS.out; have := HLT.out; have := HL.out; omega) (by have := HBS.out; have := HLT.out; have := HL.out; omega)).mono ?_
        rintro e' w2 ⟨rfl, u', hd, -, hT⟩
        have HD' := hid hd
        have HB' := hid (HBR.out.trans (HD.out.low hT HC0.out HB0'.out))
        have HBS' := hid (show (bs ++ bytesC 6 c ⟨kind, th, tx, at_, v, x', why⟩).length ≤ 12 * (k + 1) by
          have := HBS.out
          have := (bytes_len (V := 32) (S := 32) HD.out.ok ht).2
          rw [List.length_append]; omega)
        clear hd hT ht hkd e0 e1 e2 e3 e4 e5 e6
        go_wp2_with fail
        go_roundw
        case rel => exact ⟨k + 1, _, _, u', by have := HLT.out; omega, by simp, HD', HBS', HB'⟩
        case measure => have := HLT.out; simp [intOf]; omega
      | false =>
        refine (wr_no HD.out hkd HOK.out ht).mono ?_
        rintro e' w2 ⟨rfl, hb⟩
        have HD' := hid (HD.out.below hb)
        have HB' := hid (ext_trans HBR.out hb)
        have HBS' := hid (show bs.length ≤ 12 * (k + 1) by have := HBS.out; omega)
        clear hb ht hkd e0 e1 e2 e3 e4 e5 e6
        go_wp2_with fail
        go_roundw
        case rel => exact ⟨k + 1, _, _, u, by have := HLT.out; omega, by simp, HD', HBS', HB'⟩
        case measure => have := HLT.out; simp [intOf]; omega
    · obtain rfl : k = l.length := by omega
      have j1 : decide ((l.length : Int) < (l.length : Int)) = false := by rw [decide_eq_false_iff_not]; omega
      have j4 : decide (l.length < l.length) = false := by rw [decide_eq_false_iff_not]; omega
      have HBS' := hid (show bs.length ≤ 4800 by have := HBS.out; have := HL.out; omega)
      clear HKL hkl HBS
      obtain ⟨t, ht⟩ : ∃ t : Nat, (x % 18446744073709551616) % 6 = (t : Int) := Int.eq_ofNat_of_zero_le (by omega)
      obtain ⟨q, hq⟩ : ∃ q : Nat, (y % 18446744073709551616) % 32 = (q : Int) := Int.eq_ofNat_of_zero_le (by omega)
      have HT6 := hid (show (0 : Int) ≤ (t : Int) ∧ (t : Int) < 6 by omega)
      have HQ32 := hid (show (0 : Int) ≤ (q : Int) ∧ (q : Int) < 32 by omega)
      have k1 : wrap64 ((IntKind.u64.wrap x).tmod 6) = (t : Int) := by rw [u64_rem, ht]; unfold wrap64; omega
      have k2 : wrap64 ((IntKind.u64.wrap y).tmod 32) = (q : Int) := by rw [u64_rem, hq]; unfold wrap64; omega
      clear ht hq
      go_wp2_with fail
      simp only [k1, k2]
      clear k1 k2
      have heb := Blk.new wr #[.int .u8 3, .int .i64 (t : Int), .int .i64 0, .int .i64 (q : Int), .int .i64 0, .int .i64 9, .int .u8 0] 33
      have hbw : Below wr.heap.size wr (wr.alloc (.cells #[.int .u8 3, .int .i64 (t : Int), .int .i64 0, .int .i64 (q : Int), .int .i64 0, .int .i64 9, .int .u8 0] 33)) := ext_alloc (ext_refl _) _
      have hne : wr.heap.size ≠ C ∧ wr.heap.size ≠ b ∧ ∀ g, u.ownBlock = some g → g ≠ wr.heap.size := ⟨by have := HD.out.co.lt; omega, by have := HD.out.wr.blk.lt; omega, fun g hg => by have := (HD.out.wr.own.lt g hg).2; omega⟩
      have HD1 := hid (HD.out.below hbw)
      have HBR1 := hid (ext_trans HBR.out hbw)
      have HSZ := hid (show wr.heap.size < (wr.alloc (.cells #[.int .u8 3, .int .i64 (t : Int), .int .i64 0, .int .i64 (q : Int), .int .i64 0, .int .i64 9, .int .u8 0] 33)).heap.size from heb.lt)
      generalize wr.alloc (.cells #[.int .u8 3, .int .i64 (t : Int), .int .i64 0, .int .i64 (q : Int), .int .i64 0, .int .i64 9, .int .u8 0] 33) = wz at heb hbw HD1 HBR1 HSZ ⊢
      have HEB := hid heb
      have HNE := hid hne
      clear heb hbw hne HD HBR
      generalize wr.heap.size = eb at HEB HNE HSZ ⊢
      go_loopw [13] (fun i wr => ∃ (k : Nat) (c : Cdr) (bs : List Nat) (u : Value), k ≤ 2 ∧ i = .int .i64 (k : Int) ∧ Hid (Wd 6 32 32 c C b 16777216 bs (b + 1) u wr) ∧ Hid (bs.length ≤ 4800 + 12 * k) ∧ Hid (Below W.heap.size W wr) ∧ Hid (Blk wr eb #[.int .u8 3, .int .i64 (t : Int), .int .i64 0, .int .i64 (q : Int), .int .i64 0, .int .i64 9, .int .u8 0] 33) ∧ Hid (eb < wr.heap.size ∧ eb ≠ C ∧ eb ≠ b ∧ ∀ g, u.ownBlock = some g → g ≠ eb) ∧ Hid (k = 0 ∨ (c.last = (t : Int) ∧ c.x (q : Int) = 9))) (fun i _ => 2 - (intOf i).toNat)
      case atStart => exact ⟨0, _, _, _, by omega, rfl, HD1, hid (by have := HBS'.out; omega), HBR1, HEB, hid ⟨HSZ.out, HNE.out⟩, hid (Or.inl rfl)⟩
      case round =>
        clear HD1 HBR1 HSZ HEB HNE HBS'
        obtain ⟨k, c, bs, u, hkl, rfl, HD, HBS, HBR, HEB, HNE, HKN⟩ := hrel
        have HTY := hid (mayLoad (x := 9) HT6.out HQ32.out c)
        have HTF := hid (mayFree HT6.out HQ32.out c)
        have b1 := HBS.out
        by_cases hlt : k < 2
        · have hby := bytes_len (V := 32) (S := 32) HD.out.ok HTY.out
          have HW := hid (wr_yes HD.out (HK.out.below HBR.out) (e := ⟨3, (t : Int), 0, (q : Int), 0, 9, 0⟩) (by have := HT6.out; have := HQ32.out; unfold EvOk; dsimp only; omega) HTY.out (by omega) (by omega))
          dsimp only [evA] at HW
          have HLN := hid (wLen_any b 16777216 bs wr HD.out.wr.wrt (by omega))
          have j1 : decide ((k : Int) < 2) = true := by rw [decide_eq_true_iff]; omega
          have j3 : IntKind.i64.wrap ((k : Int) + 1) = (k : Int) + 1 := IntWalk.i64_in _ (by omega)
          have j5 : IntKind.i64.wrap ((bs.length : Int) + 16) = (bs.length : Int) + 16 := IntWalk.i64_in _ (by omega)
          have j6 : IntKind.i64.wrap ((bs.length : Int) + 3) = (bs.length : Int) + 3 := IntWalk.i64_in _ (by omega)
          have hsm : k = 1 → (bytesC 6 c ⟨3, (t : Int), 0, (q : Int), 0, 9, 0⟩).length = 3 := fun hk => by
            rcases HKN.out with h | h
            · omega
            · exact small_load h.1 HT6.out HQ32.out h.2
          obtain ⟨n1, hn1⟩ : ∃ n1, n1 = (bs ++ bytesC 6 c ⟨3, (t : Int), 0, (q : Int), 0, 9, 0⟩).length := ⟨_, rfl⟩
          have hn2 := hn1
          rw [List.length_append] at hn2
          have j7 : decide ((bs.length : Int) + 16 < (n1 : Int)) = false := by rw [decide_eq_false_iff_not]; omega
          have HN1 := hid hn1
          have HB1 := hid (show n1 ≤ 4800 + 12 * (k + 1) by omega)
          have e0 := HEB.out.cell 0 (v := .int .u8 3) rfl
          have e1 := HEB.out.cell 1 (v := .int .i64 (t : Int)) rfl
          have e2 := HEB.out.cell 2 (v := .int .i64 0) rfl
          have e3 := HEB.out.cell 3 (v := .int .i64 (q : Int)) rfl
          have e4 := HEB.out.cell 4 (v := .int .i64 0) rfl
          have e5 := HEB.out.cell 5 (v := .int .i64 9) rfl
          have e6 := HEB.out.cell 6 (v := .int .u8 0) rfl
          have j8 : k = 1 → decide ((bs.length : Int) + 3 < (n1 : Int)) = false := fun hk => by have := hsm hk; rw [decide_eq_false_iff_not]; omega
          have HKS := hid (knows_load c (t : Int) (q : Int) 9)
          clear hn1 hn2 hby b1 hsm
          have h01 : k = 0 ∨ k = 1 := by omega
          clear hkl hlt
          rcases h01 with rfl | rfl
          · clear j8
            go_wp2_with fail
            refine HLN.out.mono ?_
            rintro e' w2 ⟨rfl, rfl⟩
            go_wp2_with fail
            refine HW.out.mono ?_
            rintro e' w3 ⟨rfl, u', hd, hu, hT⟩
            have HLN3 := hid (wLen_any b 16777216 _ w3 hd.wr.wrt (by rw [← HN1.out]; have := HB1.out; omega))
            rw [← HN1.out] at HLN3
            have HD3 := hid hd
            have HBR3 := hid (HBR.out.trans (HD.out.low hT HC0.out HB0'.out))
            have hni : eb ∉ C :: b :: u.ownBlock.toList := by
              intro hm
              obtain ⟨q0, q1, q2, q3⟩ := HNE.out
              rcases List.mem_cons.1 hm with e | hm
              · exact q1 e
              rcases List.mem_cons.1 hm with e | hm
              · exact q2 e
              exact q3 eb (by simpa using hm) rfl
            have HEB3 := hid (hT.blk hni HEB.out)
            have HNE3 := hid (show eb < w3.heap.size ∧ eb ≠ C ∧ eb ≠ b ∧ ∀ g, u'.ownBlock = some g → g ≠ eb from ⟨HEB3.out.lt, HNE.out.2.1, HNE.out.2.2.1, fun g hg => by
              rcases hu with e | ⟨g', e, hg'⟩
              · exact HNE.out.2.2.2 g (by rw [← e]; exact hg)
              · rw [hg] at e; cases e; have := HNE.out.1; omega⟩)
            clear hd hu hT hni e0 e1 e2 e3 e4 e5 e6
            go_wp2_with fail
            refine HLN3.out.mono ?_
            rintro e' w4 ⟨rfl, rfl⟩
            go_wp2_with fail
            go_roundw
            case rel => exact ⟨1, _, _, u', by omega, by simp, HD3, hid (by rw [← HN1.out]; exact HB1.out), HBR3, HEB3, HNE3, hid (Or.inr HKS.out)⟩
            case measure => simp [intOf]
          · have j9 := j8 rfl
            clear j8
            go_wp2_with fail
            refine HLN.out.mono ?_
            rintro e' w2 ⟨rfl, rfl⟩
            go_wp2_with fail
            refine HW.out.mono ?_
            rintro e' w3 ⟨rfl, u', hd, hu, hT⟩
            have HLN3 := hid (wLen_any b 16777216 _ w3 hd.wr.wrt (by rw [← HN1.out]; have := HB1.out; omega))
            rw [← HN1.out] at HLN3
            have HD3 := hid hd
            have HBR3 := hid (HBR.out.trans (HD.out.low hT HC0.out HB0'.out))
            have hni : eb ∉ C :: b :: u.ownBlock.toList := by
              intro hm
              obtain ⟨q0, q1, q2, q3⟩ := HNE.out
              rcases List.mem_cons.1 hm with e | hm
              · exact q1 e
              rcases List.mem_cons.1 hm with e | hm
              · exact q2 e
              exact q3 eb (by simpa using hm) rfl
            have HEB3 := hid (hT.blk hni HEB.out)
            have HNE3 := hid (show eb < w3.heap.size ∧ eb ≠ C ∧ eb ≠ b ∧ ∀ g, u'.ownBlock = some g → g ≠ eb from ⟨HEB3.out.lt, HNE.out.2.1, HNE.out.2.2.1, fun g hg => by
              rcases hu with e | ⟨g', e, hg'⟩
              · exact HNE.out.2.2.2 g (by rw [← e]; exact hg)
              · rw [hg] at e; cases e; have := HNE.out.1; omega⟩)
            clear hd hu hT hni e0 e1 e2 e3 e4 e5 e6
            go_wp2_with fail
            refine HLN3.out.mono ?_
            rintro e' w4 ⟨rfl, rfl⟩
            go_wp2_with fail
            refine HLN3.out.mono ?_
            rintro e' w5 ⟨rfl, rfl⟩
            go_wp2_with fail
            go_roundw
            case rel => exact ⟨2, _, _, u', by omega, by simp, HD3, hid (by rw [← HN1.out]; exact HB1.out), HBR3, HEB3, HNE3, hid (Or.inr HKS.out)⟩
            case measure => simp [intOf]
        · obtain rfl : k = 2 := by omega
          have j1 : decide (((2 : Nat) : Int) < 2) = false := by decide
          have hk := HKN.out.resolve_left (by omega)
          have hby := small_free hk.1 HT6.out HQ32.out
          have HW := hid (wr_yes HD.out (HK.out.below HBR.out) (e := ⟨9, (t : Int), 0, (q : Int), 0, 0, 0⟩) (by have := HT6.out; have := HQ32.out; unfold EvOk; dsimp only; omega) HTF.out (by omega) (by omega))
          dsimp only [evA] at HW
          have HLN := hid (wLen_any b 16777216 bs wr HD.out.wr.wrt (by omega))
          have j6 : IntKind.i64.wrap ((bs.length : Int) + 3) = (bs.length : Int) + 3 := IntWalk.i64_in _ (by omega)
          obtain ⟨n1, hn1⟩ : ∃ n1, n1 = (bs ++ bytesC 6 c ⟨9, (t : Int), 0, (q : Int), 0, 0, 0⟩).length := ⟨_, rfl⟩
          have hn2 := hn1
          rw [List.length_append] at hn2
          have j7 : decide ((n1 : Int) ≤ (bs.length : Int) + 3) = true := by rw [decide_eq_true_iff]; omega
          have HN1 := hid hn1
          have HB1 := hid (show n1 ≤ 10000 by omega)
          clear hn1 hn2 hby b1 hk hkl hlt
          go_wp2_with fail
          refine HLN.out.mono ?_
          rintro e' w2 ⟨rfl, rfl⟩
          go_wp2_with fail
          refine HW.out.mono ?_
          rintro e' w3 ⟨rfl, u', hd, hu, hT⟩
          have HLN3 := hid (wLen_any b 16777216 _ w3 hd.wr.wrt (by rw [← HN1.out]; have := HB1.out; omega))
          rw [← HN1.out] at HLN3
          have HBR3 := hid (HBR.out.trans (HD.out.low hT HC0.out HB0'.out))
          clear hd hu hT
          go_wp2_with fail
          refine HLN3.out.mono ?_
          rintro e' w4 ⟨rfl, rfl⟩
          go_wp2_with fail
          rw [HQ.out]
          exact ⟨rfl, HBR3.out⟩
theorem deltaSmall_any (a : Option Addr) (l : List Ev) (cap : Nat) (x y : Int) (W : World) (hE : EvsAt W a l) (hKd : KindsAt W) (hx : -9223372036854775808 ≤ x ∧ x ≤ 9223372036854775807) (hy : -9223372036854775808 ≤ y ∧ y ≤ 9223372036854775807) :
    Calls Tryd.prog 3 #[.slice a l.length cap, .int .i64 x, .int .i64 y] W fun e' W' => e' = .returned (.bool true) ∧ Below W.heap.size W W' := by
  by_cases hl : l.length ≤ 400
  · exact small_any a l cap x y W hE hKd hl hx hy
  · exact small_great a l.length cap x y W hKd (by omega)
end Go.Proofs.YtokkafiphchejaaDoor
