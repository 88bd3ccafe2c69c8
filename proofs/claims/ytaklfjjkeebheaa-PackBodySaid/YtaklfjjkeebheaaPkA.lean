/-
  Walks: a pack's reader: Fail with any error, num, bad, deep.
-/
import Derived.Test.YtaklfjjkeebheaaPbW
import Derived.Test.YtaklfjjkeebheaaPbV
namespace Go.Proofs.Ytaklfjjkeebheaa
set_option linter.unusedVariables false
set_option linter.unusedSimpArgs false
set_option linter.unusedVariables false
open Go Go.RowKit
set_option maxRecDepth 100000 in
set_option maxHeartbeats 4000000 in
theorem rfailC_any (b : Nat) (s : ByteArray) (at_ e place c : Nat) (w : World) (h : RdrAt w b s at_ e) (hp : e = 0 → place ≤ at_) (hc : c ≠ 0) : Calls Try.prog 49 #[.pointer (some ⟨b, 0, none⟩), .int .i64 (place : Int), .int .i64 (c : Int)] w fun e' w' => (∃ v, e' = .returned v) ∧ RdrAt w' b s (failC ⟨byt s, at_, e⟩ place c).at_ (failC ⟨byt s, at_, e⟩ place c).err ∧ Turn [b] w w' := by
  have HH := hid h
  have c1 : w.cell? ⟨b, 1, none⟩ = some (.int .i64 (at_ : Int)) := Blk.cell h 1 rfl
  have c2 : w.cell? ⟨b, 2, none⟩ = some (.int .i64 (e : Int)) := Blk.cell h 2 rfl
  have z1 := Blk.free h 1
  have z2 := Blk.free (Blk.set h 1 (.int .i64 (place : Int))) 2
  have z3 := Blk.cell (Blk.set h 1 (.int .i64 (place : Int))) 2 (v := .int .i64 (e : Int)) rfl
  by_cases he : e = 0
  · subst he
    have hp := hp rfl
    have g1 : decide ((place : Int) < 0) = false := decide_eq_false (by omega)
    have g2 : decide ((at_ : Int) < (place : Int)) = false := decide_eq_false (by omega)
    have g3 : decide (at_ < place) = false := decide_eq_false (by omega)
    have g4 : ((c : Int) == 0) = false := beq_eq_false_iff_ne.2 (by omega)
    have g5 : (c == 0) = false := beq_eq_false_iff_ne.2 hc
    have hf : failC ⟨byt s, at_, 0⟩ place c = ⟨byt s, place, c⟩ := rfl
    rw [hf]
    obtain ⟨Q, hQ⟩ : ∃ Q : Ending → World → Prop, Q = fun e' w' => (∃ v, e' = .returned v) ∧ RdrAt w' b s place c ∧ Turn [b] w w' := ⟨_, rfl⟩
    rw [← hQ]
    have HQ := hid hQ
    clear h hp hf hQ hc
    go_enter Try.func49, Try.ntmps49
    go_wp2_with fail
    rw [HQ.out]
    exact ⟨⟨_, rfl⟩, (Blk.set HH.out 1 _).set 2 _, ((Turn.refl _ _).setCell (Or.inl (by simp)) _).setCell (Or.inl (by simp)) _⟩
  · have j1 : ((e : Int) == 0) = false := beq_eq_false_iff_ne.2 (by omega)
    have j2 : (e == 0) = false := beq_eq_false_iff_ne.2 he
    have j3 : ((e : Int) != 0) = true := bne_iff_ne.2 (by omega)
    have j4 : (e != 0) = true := bne_iff_ne.2 he
    have hf : failC ⟨byt s, at_, e⟩ place c = ⟨byt s, at_, e⟩ := by unfold failC; dsimp only; rw [if_pos he]
    rw [hf]
    obtain ⟨Q, hQ⟩ : ∃ Q : Ending → World → Prop, Q = fun e' w' => (∃ v, e' = .returned v) ∧ RdrAt w' b s at_ e ∧ Turn [b] w w' := ⟨_, rfl⟩
    rw [← hQ]
    have HQ := hid hQ
    clear h hp hf hQ he hc
    go_enter Try.func49, Try.ntmps49
    go_wp2_with fail
    rw [HQ.out]
    exact ⟨⟨_, rfl⟩, HH.out, Turn.refl _ _⟩
/-- What a call that reads a number tells. -/
def IntP (rb : Nat) (s : ByteArray) (q : Nat × Rdr) (w : World) (e : Ending) (w' : World) : Prop :=
  e = .returned (.int .i64 (q.1 : Int)) ∧ RdrAt w' rb s q.2.at_ q.2.err ∧ Turn [rb] w w'
/-- A reader in memory, at a place within its bytes. -/
structure RdM (w : World) (rb : Nat) (s : ByteArray) (r : Rdr) : Prop where
  blk : RdrAt w rb s r.at_ r.err
  s_ : r.s = byt s
  at_ : r.at_ ≤ s.size
  sz : s.size ≤ 16777216
theorem RdM.rdb {w : World} {rb : Nat} {s : ByteArray} {r : Rdr} (h : RdM w rb s r) : RdB r := ⟨by rw [h.s_]; exact byt_lt s, by rw [h.s_, byt_len]; exact h.at_⟩
theorem RdM.eta {w : World} {rb : Nat} {s : ByteArray} {r : Rdr} (h : RdM w rb s r) : r = ⟨byt s, r.at_, r.err⟩ := by cases r; simp [← h.s_]
theorem RdM.lt {w : World} {rb : Nat} {s : ByteArray} {r : Rdr} (h : RdM w rb s r) : rb < w.heap.size := Blk.lt h.blk
theorem RdM.kept {w w' : World} {rb : Nat} {s : ByteArray} {r r' : Rdr} (h : RdM w rb s r) (k : Kept r r') (hb : RdrAt w' rb s r'.at_ r'.err) : RdM w' rb s r' :=
  ⟨hb, by rw [k.s]; exact h.s_, by have := k.at_; rwa [h.s_, byt_len] at this, h.sz⟩
theorem RdM.below {w w' : World} {rb : Nat} {s : ByteArray} {r : Rdr} (h : RdM w rb s r) (hb : Below w.heap.size w w') : RdM w' rb s r := ⟨h.blk.below hb, h.s_, h.at_, h.sz⟩
theorem RdM.turn {w w' : World} {rb : Nat} {s : ByteArray} {r : Rdr} {rs : List Nat} (h : RdM w rb s r) (ht : Turn rs w w') (hn : rb ∉ rs) : RdM w' rb s r := ⟨ht.blk hn h.blk, h.s_, h.at_, h.sz⟩
set_option maxRecDepth 100000 in
set_option maxHeartbeats 4000000 in
theorem num_any (rb : Nat) (s : ByteArray) (r : Rdr) (least most : Nat) (w : World) (h : RdM w rb s r) (hl : least ≤ 9223372036854775807) (hm : most ≤ 9223372036854775807) :
    Calls Try.prog 29 #[.agg #[.pointer (some ⟨rb, 0, none⟩)], .int .i64 (least : Int), .int .i64 (most : Int)] w (IntP rb s (numL r least most) w) := by
  obtain ⟨W1, hW1⟩ : ∃ W1, W1 = w.alloc (.cells #[.pointer (some ⟨rb, 0, none⟩)] 43) := ⟨_, rfl⟩
  have hb1 : Below w.heap.size w W1 := by rw [hW1]; exact ext_alloc (ext_refl _) _
  have hbx : Blk W1 w.heap.size #[.pointer (some ⟨rb, 0, none⟩)] 43 := by rw [hW1]; exact Blk.new _ _ _
  have hm1 := h.below hb1
  have hlt := h.lt
  have HAT := hid (rAt_any rb s r.at_ r.err W1 hm1.blk)
  have HN := hid (rnum_any rb s r.at_ r.err most W1 hm1.blk h.sz h.at_ (by omega))
  rw [← h.eta] at HN
  have hk := numR_kept h.rdb most
  have hmono := numR_mono h.rdb most
  have hle := numR_le' r most
  have hz := fun hh => numR_zero (r := r) (most := most) hh
  have hh2 := fun (w' : World) (hb : RdrAt w' rb s (numR r most).2.at_ (numR r most).2.err) => hm1.kept hk hb
  have hL : numL r least most = if (numR r most).2.err = 0 ∧ (numR r most).1 < least then (0, failC (numR r most).2 r.at_ 20) else numR r most := rfl
  rw [hL]
  clear hL
  obtain ⟨ra, hra⟩ : ∃ ra, ra = r.at_ := ⟨_, rfl⟩
  rw [← hra] at HAT hmono ⊢
  generalize numR r most = q at *
  have HB1 := hid hb1
  have HX := hid hbx
  have HLT := hid hlt
  have hpl : IntKind.u64.wrap (most : Int) = (most : Int) := by simp [IntKind.wrap, IntKind.signed, IntKind.bits]; omega
  have hq0 : IntKind.i64.wrap (q.1 : Int) = (q.1 : Int) := IntWalk.i64_in _ (by omega)
  have hw64 : wrap64 (q.1 : Int) = (q.1 : Int) := by unfold wrap64; omega
  have hx0 := hbx.cell 0 (v := .pointer (some ⟨rb, 0, none⟩)) rfl
  have HW1 := hid hW1
  obtain ⟨Q, hQ⟩ : ∃ Q, Q = IntP rb s (if q.2.err = 0 ∧ q.1 < least then (0, failC q.2 ra 20) else q) w := ⟨_, rfl⟩
  rw [← hQ]
  have HQ := hid hQ
  by_cases he : q.2.err = 0
  · by_cases hlt2 : q.1 < least
    · have j1 : decide ((q.1 : Int) < (least : Int)) = true := decide_eq_true (Int.ofNat_lt.2 hlt2)
      have j2 : decide (q.1 < least) = true := decide_eq_true hlt2
      have HE := hid he
      have HLL := hid hlt2
      have HM := hid hmono
      have HH2 := hid hh2
      clear h hl hm hb1 hbx hm1 hlt hk hmono hz hle he hlt2 hQ hra hW1 hh2
      go_enter Try.func29, Try.ntmps29
      go_wp2_with fail
      rw [← HW1.out]
      refine HAT.out.mono ?_
      rintro e' w2 ⟨rfl, rfl⟩
      go_wp2_with fail
      refine HN.out.mono ?_
      rintro e' w2 ⟨rfl, hr2, hT2⟩
      have hx2 := (hT2.blk (by simp; have := HLT.out; omega) HX.out).cell 0 (v := .pointer (some ⟨rb, 0, none⟩)) rfl
      have HR2 := hid hr2
      have HT2 := hid hT2
      clear hr2 hT2 hx0
      have HE' := HE.out
      go_wp2_with fail
      refine (rfailC_any rb s q.2.at_ q.2.err ra 20 w2 HR2.out (fun _ => HM.out) (by omega)).mono ?_
      rintro e' w3 ⟨⟨v, rfl⟩, hr3, hT3⟩
      go_wp2_with fail
      rw [HQ.out, if_pos ⟨HE.out, HLL.out⟩]
      have he3 := (HH2.out _ HR2.out).eta
      exact ⟨rfl, by dsimp only; rw [he3]; exact hr3, ((Turn.of_below HB1.out).trans HT2.out).trans hT3⟩
    · have j1 : decide ((q.1 : Int) < (least : Int)) = false := decide_eq_false (fun hh => hlt2 (Int.ofNat_lt.1 hh))
      have j2 : decide (q.1 < least) = false := decide_eq_false hlt2
      have HE := hid he
      have HLL := hid hlt2
      clear h hl hm hb1 hbx hm1 hlt hk hmono hz hle hlt2 hQ hra hW1 hh2
      go_enter Try.func29, Try.ntmps29
      go_wp2_with fail
      rw [← HW1.out]
      refine HAT.out.mono ?_
      rintro e' w2 ⟨rfl, rfl⟩
      go_wp2_with fail
      refine HN.out.mono ?_
      rintro e' w2 ⟨rfl, hr2, hT2⟩
      go_wp2_with fail
      rw [HQ.out, if_neg (fun hh => HLL.out hh.2)]
      exact ⟨rfl, hr2, (Turn.of_below HB1.out).trans hT2⟩
  · have j1 : ((q.2.err : Int) == 0) = false := beq_eq_false_iff_ne.2 (by omega)
    have j2 : (q.2.err == 0) = false := beq_eq_false_iff_ne.2 he
    have HE := hid he
    clear h hl hm hb1 hbx hm1 hlt hk hmono hz hle he hQ hra hW1 hh2
    go_enter Try.func29, Try.ntmps29
    go_wp2_with fail
    rw [← HW1.out]
    refine HAT.out.mono ?_
    rintro e' w2 ⟨rfl, rfl⟩
    go_wp2_with fail
    refine HN.out.mono ?_
    rintro e' w2 ⟨rfl, hr2, hT2⟩
    go_wp2_with fail
    rw [HQ.out, if_neg (fun hh => HE.out hh.1)]
    exact ⟨rfl, hr2, (Turn.of_below HB1.out).trans hT2⟩
set_option maxRecDepth 100000 in
set_option maxHeartbeats 4000000 in
theorem bad_any (rb : Nat) (s : ByteArray) (r : Rdr) (w : World) (h : RdM w rb s r) (q : Bool) (hq : decide (r.err ≠ 0) = q) :
    Calls Try.prog 31 #[.agg #[.pointer (some ⟨rb, 0, none⟩)]] w fun e w' => e = .returned (.bool q) ∧ Below w.heap.size w w' := by
  obtain ⟨W1, hW1⟩ : ∃ W1, W1 = w.alloc (.cells #[.pointer (some ⟨rb, 0, none⟩)] 43) := ⟨_, rfl⟩
  have hb1 : Below w.heap.size w W1 := by rw [hW1]; exact ext_alloc (ext_refl _) _
  have hm1 := h.below hb1
  have HWR := hid (rWrong_any rb s r.at_ r.err W1 hm1.blk)
  have HB1 := hid hb1
  have HW1 := hid hW1
  have j1 : ((r.err : Int) != 0) = q := by
    rw [← hq]
    by_cases he : r.err = 0
    · simp [he]
    · rw [decide_eq_true he, bne_iff_ne]; omega
  have j2 : (r.err != 0) = q := by
    rw [← hq]
    by_cases he : r.err = 0
    · simp [he]
    · rw [decide_eq_true he, bne_iff_ne]; exact he
  generalize (if r.err = 0 then (0 : Int) else (r.at_ : Int)) = pl at HWR
  clear h hq hb1 hm1 hW1
  go_enter Try.func31, Try.ntmps31
  go_wp2_with fail
  rw [← HW1.out]
  refine HWR.out.mono ?_
  rintro e' w2 ⟨rfl, hb2⟩
  have HB2 := hid hb2
  clear hb2
  go_wp2_with fail
  go_ret
  exact ⟨rfl, ext_trans HB1.out HB2.out⟩
set_option maxRecDepth 100000 in
set_option maxHeartbeats 4000000 in
theorem deep_any (rb : Nat) (s : ByteArray) (r : Rdr) (d : Nat) (w : World) (h : RdM w rb s r) (hd : d ≤ 6) :
    Calls Try.prog 63 #[.agg #[.pointer (some ⟨rb, 0, none⟩)], .int .i64 1, .int .i64 8, .int .i64 ((7 - d : Nat) : Int)] w (IntP rb s ((numL r 1 8).1, if d = 0 then failC (numL r 1 8).2 r.at_ 40 else (numL r 1 8).2) w) := by
  obtain ⟨W1, hW1⟩ : ∃ W1, W1 = w.alloc (.cells #[.pointer (some ⟨rb, 0, none⟩)] 43) := ⟨_, rfl⟩
  have hb1 : Below w.heap.size w W1 := by rw [hW1]; exact ext_alloc (ext_refl _) _
  have hbx : Blk W1 w.heap.size #[.pointer (some ⟨rb, 0, none⟩)] 43 := by rw [hW1]; exact Blk.new _ _ _
  have hm1 := h.below hb1
  have hlt := h.lt
  have HAT := hid (rAt_any rb s r.at_ r.err W1 hm1.blk)
  have HN := hid (num_any rb s r 1 8 W1 hm1 (by omega) (by omega))
  have hk := numL_kept h.rdb 1 8
  have hmono : (numL r 1 8).2.err = 0 → r.at_ ≤ (numL r 1 8).2.at_ := by
    intro he
    have := (numL_went h.rdb he).1.tk
    have h2 := congrArg List.length this
    have hs := h.rdb.2
    have h3 := hk.at_
    rw [List.length_take, List.length_append, List.length_take] at h2
    omega
  have hh2 := fun (w' : World) (hb : RdrAt w' rb s (numL r 1 8).2.at_ (numL r 1 8).2.err) => hm1.kept hk hb
  have hle := numL_le r 1 8
  obtain ⟨ra, hra⟩ : ∃ ra, ra = r.at_ := ⟨_, rfl⟩
  rw [← hra] at HAT hmono ⊢
  have hra2 : ra ≤ s.size := by rw [hra]; exact h.at_
  generalize numL r 1 8 = q at *
  have HB1 := hid hb1
  have HX := hid hbx
  have HLT := hid hlt
  have hx0 := hbx.cell 0 (v := .pointer (some ⟨rb, 0, none⟩)) rfl
  have HW1 := hid hW1
  by_cases h0 : d = 0
  · subst h0
    rw [if_pos rfl]
    obtain ⟨Q, hQ⟩ : ∃ Q, Q = IntP rb s (q.1, failC q.2 ra 40) w := ⟨_, rfl⟩
    rw [← hQ]
    have HQ := hid hQ
    have HM := hid hmono
    have HH2 := hid hh2
    clear h hb1 hbx hm1 hlt hk hmono hQ hra hW1 hh2 hd hle hra2
    go_enter Try.func63, Try.ntmps63
    go_wp2_with fail
    rw [← HW1.out]
    refine HAT.out.mono ?_
    rintro e' w2 ⟨rfl, rfl⟩
    go_wp2_with fail
    refine HN.out.mono ?_
    rintro e' w2 ⟨rfl, hr2, hT2⟩
    have hx2 := (hT2.blk (by simp; have := HLT.out; omega) HX.out).cell 0 (v := .pointer (some ⟨rb, 0, none⟩)) rfl
    have HR2 := hid hr2
    have HT2 := hid hT2
    clear hr2 hT2 hx0
    go_wp2_with fail
    refine (show Calls Try.prog 49 #[.pointer (some ⟨rb, 0, none⟩), .int .i64 (ra : Int), .int .i64 40] w2 (fun e' w' => (∃ v, e' = .returned v) ∧ RdrAt w' rb s (failC q.2 ra 40).at_ (failC q.2 ra 40).err ∧ Turn [rb] w2 w') from ?_).mono ?_
    · have he3 := (HH2.out _ HR2.out).eta
      rw [he3]
      exact rfailC_any rb s q.2.at_ q.2.err ra 40 w2 HR2.out HM.out (by omega)
    · rintro e' w3 ⟨⟨v, rfl⟩, hr3, hT3⟩
      go_wp2_with fail
      rw [HQ.out]
      exact ⟨rfl, hr3, ((Turn.of_below HB1.out).trans HT2.out).trans hT3⟩
  · rw [if_neg h0]
    have j1 : decide ((6 : Int) < ((7 - d : Nat) : Int)) = false := decide_eq_false (by omega)
    have j2 : decide (6 < 7 - d) = false := decide_eq_false (by omega)
    obtain ⟨Q, hQ⟩ : ∃ Q, Q = IntP rb s q w := ⟨_, rfl⟩
    have hQ' : Q = IntP rb s (q.1, q.2) w := hQ
    rw [← hQ']
    have HQ := hid hQ
    obtain ⟨nn, hnn⟩ : ∃ nn, nn = 7 - d := ⟨_, rfl⟩
    rw [← hnn] at j1 j2 ⊢
    clear h hb1 hbx hm1 hlt hk hmono hQ hra hW1 hh2 hd hle hra2 h0 hnn hQ'
    go_enter Try.func63, Try.ntmps63
    go_wp2_with fail
    rw [← HW1.out]
    refine HAT.out.mono ?_
    rintro e' w2 ⟨rfl, rfl⟩
    go_wp2_with fail
    refine HN.out.mono ?_
    rintro e' w2 ⟨rfl, hr2, hT2⟩
    go_wp2_with fail
    rw [HQ.out]
    exact ⟨rfl, hr2, (Turn.of_below HB1.out).trans hT2⟩
end Go.Proofs.Ytaklfjjkeebheaa
