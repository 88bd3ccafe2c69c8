/-
  Walk: the document's Read of an event (printed by gen_drr.py).
-/
import Derived.Test.YtokkafiphchejaaDoorDeG1
import Derived.Test.YtokkafiphchejaaDoorDeG2
import Derived.Test.YtokkafiphchejaaDoorDeG4
import Derived.StillTailTactics
namespace Go.Proofs.YtokkafiphchejaaDoor
set_option linter.unusedVariables false
set_option linter.unusedSimpArgs false
set_option linter.unusedVariables false
open Go Go.RowKit
theorem told_r {b : Nat} {s : ByteArray} {r : Rdr} {most : Nat} {w : World} (h : RRd w b s r.at_ r.err) (hs : s.size ≤ 16777216) (ho : RdOk s r) (hm : most ≤ 4398046511104) : Calls Tryd.prog 48 #[.pointer (some ⟨b, 0, none⟩), .int .i64 (most : Int)] w fun e' w' => e' = .returned (.int .i64 ((numR r most).1 : Int)) ∧ RRd w' b s (numR r most).2.at_ (numR r most).2.err ∧ Turn [b] w w' := by
  obtain ⟨rs, ra, re⟩ := r
  obtain ⟨h1, h2⟩ := ho
  dsimp only at h1 h2
  subst h1
  exact told_any b s ra re most w h hs h2 hm
theorem int_r {b : Nat} {s : ByteArray} {r : Rdr} {w : World} (h : RRd w b s r.at_ r.err) (hs : s.size ≤ 16777216) (ho : RdOk s r) : Calls Tryd.prog 49 #[.pointer (some ⟨b, 0, none⟩)] w fun e' w' => e' = .returned (.tuple #[.int .i64 (zagZ (numR r maxU).1), .int .i64 ((numR r maxU).2.err : Int)]) ∧ RRd w' b s (numR r maxU).2.at_ (numR r maxU).2.err ∧ Turn [b] w w' := by
  obtain ⟨rs, ra, re⟩ := r
  obtain ⟨h1, h2⟩ := ho
  dsimp only at h1 h2
  subst h1
  exact qint_any b s ra re w h hs h2
theorem fail_r {b : Nat} {s : ByteArray} {r : Rdr} {place : Nat} {w : World} (h : RRd w b s r.at_ r.err) (ho : RdOk s r) (hp : place ≤ r.at_) : Calls Tryd.prog 50 #[.pointer (some ⟨b, 0, none⟩), .int .i64 (place : Int), .int .i64 20] w fun e' w' => (∃ v, e' = .returned v) ∧ RRd w' b s (failR r place).at_ (failR r place).err ∧ Turn [b] w w' := by
  obtain ⟨rs, ra, re⟩ := r
  obtain ⟨h1, h2⟩ := ho
  dsimp only at h1 h2
  subst h1
  exact qfail_any b s ra re place w h hp
/-- What is read behind the first number. -/
def lineX (V S : Int) (c : Cdr) (k th : Int) (r : Rdr) : Ev × Rdr :=
  if k = 1 then let b := numR r 5; let d := numR b.2 (maxClockN - c.clock).toNat; (⟨k, th, b.1, 0, c.clock + d.1, 0, 0⟩, d.2)
  else if k = 2 then let b := numR r (S - 1).toNat; let d := numR b.2 (c.begun th).toNat; (⟨k, th, 0, b.1, c.begun th - d.1, 0, 0⟩, d.2)
  else if k = 3 ∨ k = 8 then let b := numR r (V - 1).toNat; let d := numR b.2 maxU; (⟨k, th, 0, b.1, 0, w64 (c.x b.1 + zagZ d.1), 0⟩, d.2)
  else if k = 4 ∨ k = 6 ∨ k = 9 ∨ k = 11 then let b := numR r (S - 1).toNat; (⟨k, th, 0, b.1, 0, 0, 0⟩, b.2)
  else if k = 5 then let b := numR r (maxClockN - c.clock).toNat; (⟨k, th, 0, 0, c.clock + b.1, 0, 0⟩, if b.1 = 0 then failR b.2 r.at_ else b.2)
  else if k = 7 then let b := numR r 1; if b.1 = 0 then (⟨k, th, 0, 0, 0, 0, 0⟩, b.2) else (⟨k, th, 0, 0, c.bumped th, 0, 0⟩, if c.bumped th = 0 then failR b.2 r.at_ else b.2)
  else if k = 10 then let b := numR r 5; if b.1 + 1 = 6 then (⟨k, th, 0, 0, 0, 0, b.1 + 1⟩, b.2) else let d := numR b.2 (S - 1).toNat; (⟨k, th, 0, d.1, 0, 0, b.1 + 1⟩, d.2)
  else (⟨k, th, 0, 0, 0, 0, 0⟩, r)
theorem lineX5 (V S : Int) (c : Cdr) (th : Int) (r : Rdr) : lineX V S c 5 th r = (⟨5, th, 0, 0, c.clock + ((numR r (maxClockN - c.clock).toNat).1 : Int), 0, 0⟩, if (numR r (maxClockN - c.clock).toNat).1 = 0 then failR (numR r (maxClockN - c.clock).toNat).2 r.at_ else (numR r (maxClockN - c.clock).toNat).2) := by
  unfold lineX; simp
theorem lineR_x (T V S : Int) (c : Cdr) (r : Rdr) : lineR T V S c r = lineX V S c (((numR r (13 * T - 1).toNat).1 : Int) / T + 1) ((((numR r (13 * T - 1).toNat).1 : Int) % T + c.last) % T) (numR r (13 * T - 1).toNat).2 := rfl
theorem tn {x : Int} (h : 0 ≤ x) : ((x.toNat : Nat) : Int) = x := by omega
theorem rr_keep {b : Nat} {s : ByteArray} (r : Rdr) (w w' : World) (h : RRd w b s r.at_ r.err) (hk : ∀ k ∈ [b], w'.heap[k]? = w.heap[k]?) : RRd w' b s r.at_ r.err := by
  have := hk b (by simp)
  unfold RRd Blk at *
  rw [this]; exact h
def ecA (e : Ev) : Array Value := #[.int .u8 e.kind, .int .i64 e.th, .int .i64 e.tx, .int .i64 e.at_, .int .i64 e.v, .int .i64 e.x, .int .u8 e.why]
/-- The state of Read behind its first number: the event's block L, the coder's C, the reader's b, the block of what is told. -/
structure RSt (T V S : Int) (c : Cdr) (s : ByteArray) (W : World) (C b L : Nat) (w : World) (r : Rdr) (e : Ev) : Prop where
  ne : b < W.heap.size ∧ C < W.heap.size ∧ C ≠ b ∧ W.heap.size < L
  be : Blk w L (ecA e) 33
  bc : Blk w C (cdrA T V S c) 90
  bz : Blk w W.heap.size #[.int .u8 0, .int .i64 0, .int .i64 0, .int .i64 0, .int .i64 0, .int .i64 0, .int .u8 0] 33
  rd : RRd w b s r.at_ r.err
  tu : Turn [b] W w
  ok : RdOk s r
section
variable {T V S : Int} {c : Cdr} {s : ByteArray} {W : World} {C b L : Nat} {w w' : World} {r r' : Rdr} {e e2 : Ev}
theorem RSt.nb (H : RSt T V S c s W C b L w r e) : L ∉ [b] ∧ C ∉ [b] ∧ W.heap.size ∉ [b] := by
  have := H.ne
  simp only [List.mem_cons, List.not_mem_nil, or_false]; omega
theorem RSt.step (H : RSt T V S c s W C b L w r e) (h : Turn [b] w w') (h2 : RRd w' b s r'.at_ r'.err) (h3 : RdOk s r') : RSt T V S c s W C b L w' r' e :=
  ⟨H.ne, h.blk H.nb.1 H.be, h.blk H.nb.2.1 H.bc, h.blk H.nb.2.2 H.bz, h2, H.tu.trans h, h3⟩
theorem RSt.below (H : RSt T V S c s W C b L w r e) (h : Below w.heap.size w w') : RSt T V S c s W C b L w' r e :=
  H.step (Turn.of_below h) (Blk.below h H.rd) H.ok
theorem RSt.told (H : RSt T V S c s W C b L w r e) {most : Nat} (hs : s.size ≤ 16777216) (hm : most ≤ 4398046511104) : Calls Tryd.prog 48 #[.pointer (some ⟨b, 0, none⟩), .int .i64 (most : Int)] w fun e' w' => e' = .returned (.int .i64 ((numR r most).1 : Int)) ∧ RSt T V S c s W C b L w' (numR r most).2 e :=
  (told_r H.rd hs H.ok hm).mono fun e' w' h => ⟨h.1, H.step h.2.2 h.2.1 (numR_ok H.ok most).1⟩
theorem RSt.int (H : RSt T V S c s W C b L w r e) (hs : s.size ≤ 16777216) : Calls Tryd.prog 49 #[.pointer (some ⟨b, 0, none⟩)] w fun e' w' => e' = .returned (.tuple #[.int .i64 (zagZ (numR r maxU).1), .int .i64 ((numR r maxU).2.err : Int)]) ∧ RSt T V S c s W C b L w' (numR r maxU).2 e :=
  (int_r H.rd hs H.ok).mono fun e' w' h => ⟨h.1, H.step h.2.2 h.2.1 (numR_ok H.ok maxU).1⟩
theorem RSt.fail (H : RSt T V S c s W C b L w r e) {place : Nat} (hp : place ≤ r.at_) : Calls Tryd.prog 50 #[.pointer (some ⟨b, 0, none⟩), .int .i64 (place : Int), .int .i64 20] w fun e' w' => (∃ v, e' = .returned v) ∧ RSt T V S c s W C b L w' (failR r place) e :=
  (fail_r H.rd H.ok hp).mono fun e' w' h => ⟨h.1, H.step h.2.2 h.2.1 (by
    unfold failR
    split
    · exact H.ok
    · exact ⟨H.ok.1, Nat.le_trans hp H.ok.2⟩)⟩
theorem RSt.set (H : RSt T V S c s W C b L w r e) (i : Nat) (v : Value) (he : (ecA e).setIfInBounds i v = ecA e2) : RSt T V S c s W C b L (w.setCell ⟨L, i, none⟩ v) r e2 := by
  have := H.ne
  exact ⟨H.ne, by rw [← he]; exact H.be.set i v, H.bc.set_other ⟨L, i, none⟩ v (by show C ≠ L; omega), H.bz.set_other ⟨L, i, none⟩ v (by show W.heap.size ≠ L; omega), Blk.set_other H.rd ⟨L, i, none⟩ v (by show b ≠ L; omega), H.tu.setCell (p := ⟨L, i, none⟩) (Or.inr (by show W.heap.size ≤ L; omega)) v, H.ok⟩
theorem RSt.turn (H : RSt T V S c s W C b L w r e) (h : Turn (L :: [b]) w w') (h1 : Blk w' L (ecA e2) 33) (h2 : RRd w' b s r'.at_ r'.err) (h3 : RdOk s r') : RSt T V S c s W C b L w' r' e2 := by
  have := H.ne
  refine ⟨H.ne, h1, h.blk (by simp only [List.mem_cons, List.not_mem_nil, or_false]; omega) H.bc, h.blk (by simp only [List.mem_cons, List.not_mem_nil, or_false]; omega) H.bz, h2, H.tu.over h (fun x hx => ?_), h3⟩
  rcases List.mem_cons.1 hx with e | hx
  · right; omega
  · exact Or.inl hx
end
/-- What Read tells. -/
def RReadP (T V S : Int) (s : ByteArray) (z : Ev × Nat × Rdr × Cdr) (C b : Nat) (W : World) (e' : Ending) (W' : World) : Prop :=
  e' = .returned (.tuple #[evA z.1, .int .i64 (z.2.1 : Int)]) ∧ Blk W' C (cdrA T V S z.2.2.2) 90 ∧ RRd W' b s z.2.2.1.at_ z.2.2.1.err ∧ Turn [C, b] W W'
set_option maxRecDepth 100000 in
set_option maxHeartbeats 40000000 in
theorem rread_any (T V S : Int) (c : Cdr) (s : ByteArray) (at_ : Nat) (C b : Nat) (W : World) (hC : Blk W C (cdrA T V S c) 90) (hT : 1 ≤ T ∧ T ≤ 6) (hV : 1 ≤ V ∧ V ≤ 32) (hS : 1 ≤ S ∧ S ≤ V) (hc : OkC T c) (hr : RRd W b s at_ 0) (hs : s.size ≤ 16777216) (ha : at_ ≤ s.size) (hCb : C ≠ b) :
    Calls Tryd.prog 23 #[.pointer (some ⟨C, 0, none⟩), .pointer (some ⟨b, 0, none⟩)] W (RReadP T V S s (readC T V S c ⟨byt s, at_, 0⟩) C b W) := by
  obtain ⟨W1, hW1⟩ : ∃ W1, W1 = W.alloc (.cells #[.int .u8 0, .int .i64 0, .int .i64 0, .int .i64 0, .int .i64 0, .int .i64 0, .int .u8 0] 33) := ⟨_, rfl⟩
  have hb1 : Below W.heap.size W W1 := by rw [hW1]; exact ext_alloc (ext_refl _) _
  have hz1 : Blk W1 W.heap.size #[.int .u8 0, .int .i64 0, .int .i64 0, .int .i64 0, .int .i64 0, .int .i64 0, .int .u8 0] 33 := by rw [hW1]; exact Blk.new _ _ _
  have hC1 := hC.below hb1
  have hr1 : RRd W1 b s (⟨byt s, at_, 0⟩ : Rdr).at_ (⟨byt s, at_, 0⟩ : Rdr).err := Blk.below hb1 hr
  have HTV := hid (show (1 ≤ T ∧ T ≤ 6) ∧ (1 ≤ V ∧ V ≤ 32) ∧ (1 ≤ S ∧ S ≤ V) from ⟨hT, hV, hS⟩)
  have HOK := hid hc
  have HSZ := hid hs
  have HA := hid ha
  have HTO := hid (told_r hr1 hs ⟨rfl, ha⟩ (show (13 * T - 1).toNat ≤ 4398046511104 by omega))
  rw [tn (show 0 ≤ 13 * T - 1 by omega)] at HTO
  have hyl := numR_le ⟨byt s, at_, 0⟩ (13 * T - 1).toNat
  obtain ⟨hyo, hyo2⟩ := numR_ok (s := s) (r := ⟨byt s, at_, 0⟩) ⟨rfl, ha⟩ (13 * T - 1).toNat
  have HRC : Hid (lineR T V S c ⟨byt s, at_, 0⟩ = _) := hid (lineR_x T V S c ⟨byt s, at_, 0⟩)
  obtain ⟨r0, hr0⟩ : ∃ r0 : Rdr, r0 = ⟨byt s, at_, 0⟩ := ⟨_, rfl⟩
  have HR0 := hid hr0
  rw [← hr0] at HTO hyl hyo HRC ⊢
  obtain ⟨y, hy⟩ : ∃ y, y = numR r0 (13 * T - 1).toNat := ⟨_, rfl⟩
  rw [← hy] at HTO hyl hyo HRC
  obtain ⟨yn, hyn⟩ : ∃ yn : Int, yn = (y.1 : Int) := ⟨_, rfl⟩
  rw [← hyn] at HTO HRC
  have hyr : 0 ≤ yn ∧ yn ≤ 13 * T - 1 := by omega
  obtain ⟨y0, y2⟩ := y
  dsimp only at HTO hyo HRC
  have HYO := hid hyo
  have hcl := hc.last
  have m1 : IntKind.i64.wrap (13 * T) = 13 * T := IntWalk.i64_in _ (by omega)
  have m2 : IntKind.i64.wrap (13 * T - 1) = 13 * T - 1 := IntWalk.i64_in _ (by omega)
  have t0 : (T == 0) = false := by simp; omega
  have t1 : ¬ T = 0 := by omega
  have t2 : decide (T = 0) = false := by simp; omega
  have t3 : ¬ T = -1 := by omega
  have t4 : (T == -1) = false := by simp; omega
  obtain ⟨kq, hkq⟩ : ∃ kq, kq = yn / T := ⟨_, rfl⟩
  obtain ⟨rr, hrr⟩ : ∃ rr, rr = yn % T := ⟨_, rfl⟩
  have hkr : 0 ≤ kq ∧ kq ≤ 12 := by
    rw [hkq]
    refine ⟨Int.ediv_nonneg hyr.1 (by omega), ?_⟩
    have := Int.ediv_lt_of_lt_mul (a := yn) (b := 13) (c := T) (by omega) (by omega)
    omega
  have hrrr : 0 ≤ rr ∧ rr < T := by rw [hrr]; exact ⟨Int.emod_nonneg _ (by omega), Int.emod_lt_of_pos _ (by omega)⟩
  obtain ⟨th, hth⟩ : ∃ th : Nat, (rr + c.last) % T = (th : Int) := Int.eq_ofNat_of_zero_le (Int.emod_nonneg _ (by omega))
  have htp : (th : Int) < T := by rw [← hth]; exact Int.emod_lt_of_pos _ (by omega)
  have HTH := hid (show th < 6 by omega)
  rw [← hkq, ← hrr, hth] at HRC
  have hq1 : yn.tdiv T = kq := by rw [Int.tdiv_eq_ediv_of_nonneg hyr.1]; exact hkq.symm
  have hq2 : IntKind.i64.wrap kq = kq := IntWalk.i64_in _ (by omega)
  obtain ⟨kk, hkk⟩ : ∃ kk, kk = kq + 1 := ⟨_, rfl⟩
  rw [← hkk] at HRC
  have hq3 : IntKind.i64.wrap (kq + 1) = kk := by rw [hkk]; exact IntWalk.i64_in _ (by omega)
  have hq4 : IntKind.u8.wrap kk = kk := by rw [hkk]; simp only [IntKind.wrap, IntKind.bits, IntKind.signed]; simp; omega
  have q1 : yn.tmod T = rr := by rw [Int.tmod_eq_emod_of_nonneg hyr.1]; exact hrr.symm
  have q2 : IntKind.i64.wrap rr = rr := IntWalk.i64_in _ (by omega)
  have q3 : IntKind.i64.wrap (rr + c.last) = rr + c.last := IntWalk.i64_in _ (by omega)
  have q4 : (rr + c.last).tmod T = (th : Int) := by rw [Int.tmod_eq_emod_of_nonneg (by omega)]; exact hth
  have q5 : IntKind.i64.wrap (th : Int) = (th : Int) := IntWalk.i64_in _ (by omega)
  have hk13 : kk = 1 ∨ kk = 2 ∨ kk = 3 ∨ kk = 4 ∨ kk = 5 ∨ kk = 6 ∨ kk = 7 ∨ kk = 8 ∨ kk = 9 ∨ kk = 10 ∨ kk = 11 ∨ kk = 12 ∨ kk = 13 := by omega
  have HK13 := hid hk13
  have HB1 := hid hb1
  have HZ1 := hid hz1
  have HC1 := hid hC1
  have HNS := hid (And.intro (show b < W.heap.size from Blk.lt hr) (And.intro hC.lt hCb))
  have c0 := hC1.cell 0 (v := .int .i64 T) rfl
  obtain ⟨Q, hQ⟩ : ∃ Q, Q = RReadP T V S s (readC T V S c r0) C b W := ⟨_, rfl⟩
  rw [← hQ]
  have HQ := hid hQ
  have HW1 := hid hW1
  clear hW1 hC hr hs ha hCb hb1 hz1 hC1 hr1 hT hV hS hc hyl hyo hyo2 hr0 hy hyr hcl hkq hrr hkr hrrr hth htp hk13 hkk hQ hyn
  go_enter Tryd.func23, Tryd.ntmps23
  go_wp2_with (rw [← HW1.out]; go_simp)
  refine HTO.out.mono ?_
  rintro e' w2 ⟨rfl, hr2, hT2⟩
  have hC2 := hT2.blk (k := C) (by have := HNS.out; simp only [List.mem_cons, List.not_mem_nil, or_false]; omega) HC1.out
  have hZ2 := hT2.blk (k := W.heap.size) (by have := HNS.out; simp only [List.mem_cons, List.not_mem_nil, or_false]; omega) HZ1.out
  have c0 := hC2.cell 0 (v := .int .i64 T) rfl
  have c3 := hC2.cell 3 (v := .int .i64 c.last) rfl
  have HC2 := hid hC2
  have HZ2 := hid hZ2
  have HR2 := hid hr2
  have HT2 := hid ((Turn.of_below HB1.out).over (m := [b]) hT2 (fun x hx => Or.inl hx))
  have HZW := hid (show W.heap.size < w2.heap.size from hZ2.lt)
  clear hr2 hT2 hC2 hZ2 HTO HC1 HZ1 HB1 HW1
  go_wp2_with fail
  apply wp_region_inv' (By w2 25 (fun i => ([.int .i64 yn, .pointer (some ⟨C, 0, none⟩), .pointer (some ⟨C, 0, none⟩), .pointer (some ⟨C, 0, none⟩), .int .i64 T, .int .i64 kq, .int .i64 kk, .int .u8 kk, .int .i64 yn, .pointer (some ⟨C, 0, none⟩), .pointer (some ⟨C, 0, none⟩), .pointer (some ⟨C, 0, none⟩), .int .i64 T, .int .i64 rr, .pointer (some ⟨C, 0, none⟩), .pointer (some ⟨C, 0, none⟩), .pointer (some ⟨C, 3, none⟩), .int .i64 c.last, .int .i64 (rr + c.last), .pointer (some ⟨C, 0, none⟩), .pointer (some ⟨C, 0, none⟩), .pointer (some ⟨C, 0, none⟩), .int .i64 T, .int .i64 (th : Int), .agg #[.int .u8 kk, .int .i64 (th : Int), .int .i64 0, .int .i64 0, .int .i64 0, .int .i64 0, .int .u8 0]] : List Value).getD i undef) #[.int .u8 kk, .int .i64 ((th : Int)), .int .i64 0, .int .i64 0, .int .i64 0, .int .i64 0, .int .u8 0] 33)
  focus (intro vals; simp [putAll, dstOf, Act.put]; rfl)
  case hm => kernel_rfl
  case hd => kernel_rfl
  case hb => kernel_rfl
  case hng => kernel_rfl
  case hsz => kernel_rfl
  case hext => exact fun l l' v w' h H => H.ext h
  case h0 => exact By.start (ext_drew (ext_refl _))
  case hstep =>
    refine ⟨?_, ?_, ?_, ?_, ?_, ?_, ?_, ?_, ?_, ?_, ?_, ?_, ?_, ?_, ?_, ?_, ?_, ?_, ?_, ?_, ?_, ?_, ?_, ?_, ?_, ?_, ?_, trivial⟩
    all_goals (
      intro l1 vs w' hi hd hJ
      refine ⟨(fun g b h => by cases h), fun _ ρ h1 h2 h3 h4 h5 => ?_⟩)
    · have f6 := h5 6 (by kernel_rfl)
      have HJ' := hid hJ
      clear hJ
      unfold OpY
      go_simp
      exact By.get 0 (by omega) HJ'.out
    · have f0 := h5 0 (by kernel_rfl)
      have HJ' := hid hJ
      clear hJ
      unfold OpY
      go_simp
      exact By.get 1 (by omega) HJ'.out
    · have f24 := (h4 1 24 (by kernel_rfl) (by kernel_rfl)).trans (hJ.knw 1 (by omega) (hd 1 (by kernel_rfl)))
      dsimp only [List.getD, List.getElem?_cons_zero, List.getElem?_cons_succ, Option.getD] at f24
      have HJ' := hid hJ
      clear hJ
      unfold OpY
      go_simp
      exact By.get 2 (by omega) HJ'.out
    · have f25 := (h4 2 25 (by kernel_rfl) (by kernel_rfl)).trans (hJ.knw 2 (by omega) (hd 2 (by kernel_rfl)))
      dsimp only [List.getD, List.getElem?_cons_zero, List.getElem?_cons_succ, Option.getD] at f25
      have HJ' := hid hJ
      clear hJ
      unfold OpY
      go_simp
      exact By.get 3 (by omega) HJ'.out
    · have f26 := (h4 3 26 (by kernel_rfl) (by kernel_rfl)).trans (hJ.knw 3 (by omega) (hd 3 (by kernel_rfl)))
      dsimp only [List.getD, List.getElem?_cons_zero, List.getElem?_cons_succ, Option.getD] at f26
      have z := later hJ.mid c0
      have HJ' := hid hJ
      clear hJ
      unfold OpY
      go_simp
      exact By.get 4 (by omega) HJ'.out
    · have f23 := (h4 0 23 (by kernel_rfl) (by kernel_rfl)).trans (hJ.knw 0 (by omega) (hd 0 (by kernel_rfl)))
      have f27 := (h4 4 27 (by kernel_rfl) (by kernel_rfl)).trans (hJ.knw 4 (by omega) (hd 4 (by kernel_rfl)))
      dsimp only [List.getD, List.getElem?_cons_zero, List.getElem?_cons_succ, Option.getD] at f23 f27
      have HJ' := hid hJ
      clear hJ
      unfold OpY
      go_simp
      exact By.get 5 (by omega) HJ'.out
    · have f28 := (h4 5 28 (by kernel_rfl) (by kernel_rfl)).trans (hJ.knw 5 (by omega) (hd 5 (by kernel_rfl)))
      dsimp only [List.getD, List.getElem?_cons_zero, List.getElem?_cons_succ, Option.getD] at f28
      have HJ' := hid hJ
      clear hJ
      unfold OpY
      go_simp
      exact By.get 6 (by omega) HJ'.out
    · have f29 := (h4 6 29 (by kernel_rfl) (by kernel_rfl)).trans (hJ.knw 6 (by omega) (hd 6 (by kernel_rfl)))
      dsimp only [List.getD, List.getElem?_cons_zero, List.getElem?_cons_succ, Option.getD] at f29
      have HJ' := hid hJ
      clear hJ
      unfold OpY
      go_simp
      exact By.get 7 (by omega) HJ'.out
    · have f6 := h5 6 (by kernel_rfl)
      have HJ' := hid hJ
      clear hJ
      unfold OpY
      go_simp
      exact By.get 8 (by omega) HJ'.out
    · have f0 := h5 0 (by kernel_rfl)
      have HJ' := hid hJ
      clear hJ
      unfold OpY
      go_simp
      exact By.get 9 (by omega) HJ'.out
    · have f32 := (h4 9 32 (by kernel_rfl) (by kernel_rfl)).trans (hJ.knw 9 (by omega) (hd 9 (by kernel_rfl)))
      dsimp only [List.getD, List.getElem?_cons_zero, List.getElem?_cons_succ, Option.getD] at f32
      have HJ' := hid hJ
      clear hJ
      unfold OpY
      go_simp
      exact By.get 10 (by omega) HJ'.out
    · have f33 := (h4 10 33 (by kernel_rfl) (by kernel_rfl)).trans (hJ.knw 10 (by omega) (hd 10 (by kernel_rfl)))
      dsimp only [List.getD, List.getElem?_cons_zero, List.getElem?_cons_succ, Option.getD] at f33
      have HJ' := hid hJ
      clear hJ
      unfold OpY
      go_simp
      exact By.get 11 (by omega) HJ'.out
    · have f34 := (h4 11 34 (by kernel_rfl) (by kernel_rfl)).trans (hJ.knw 11 (by omega) (hd 11 (by kernel_rfl)))
      dsimp only [List.getD, List.getElem?_cons_zero, List.getElem?_cons_succ, Option.getD] at f34
      have z := later hJ.mid c0
      have HJ' := hid hJ
      clear hJ
      unfold OpY
      go_simp
      exact By.get 12 (by omega) HJ'.out
    · have f31 := (h4 8 31 (by kernel_rfl) (by kernel_rfl)).trans (hJ.knw 8 (by omega) (hd 8 (by kernel_rfl)))
      have f35 := (h4 12 35 (by kernel_rfl) (by kernel_rfl)).trans (hJ.knw 12 (by omega) (hd 12 (by kernel_rfl)))
      dsimp only [List.getD, List.getElem?_cons_zero, List.getElem?_cons_succ, Option.getD] at f31 f35
      have HJ' := hid hJ
      clear hJ
      unfold OpY
      go_simp
      exact By.get 13 (by omega) HJ'.out
    · have f0 := h5 0 (by kernel_rfl)
      have HJ' := hid hJ
      clear hJ
      unfold OpY
      go_simp
      exact By.get 14 (by omega) HJ'.out
    · have f37 := (h4 14 37 (by kernel_rfl) (by kernel_rfl)).trans (hJ.knw 14 (by omega) (hd 14 (by kernel_rfl)))
      dsimp only [List.getD, List.getElem?_cons_zero, List.getElem?_cons_succ, Option.getD] at f37
      have HJ' := hid hJ
      clear hJ
      unfold OpY
      go_simp
      exact By.get 15 (by omega) HJ'.out
    · have f38 := (h4 15 38 (by kernel_rfl) (by kernel_rfl)).trans (hJ.knw 15 (by omega) (hd 15 (by kernel_rfl)))
      dsimp only [List.getD, List.getElem?_cons_zero, List.getElem?_cons_succ, Option.getD] at f38
      have HJ' := hid hJ
      clear hJ
      unfold OpY
      go_simp
      exact By.get 16 (by omega) HJ'.out
    · have f39 := (h4 16 39 (by kernel_rfl) (by kernel_rfl)).trans (hJ.knw 16 (by omega) (hd 16 (by kernel_rfl)))
      dsimp only [List.getD, List.getElem?_cons_zero, List.getElem?_cons_succ, Option.getD] at f39
      have z := later hJ.mid c3
      have HJ' := hid hJ
      clear hJ
      unfold OpY
      go_simp
      exact By.get 17 (by omega) HJ'.out
    · have f36 := (h4 13 36 (by kernel_rfl) (by kernel_rfl)).trans (hJ.knw 13 (by omega) (hd 13 (by kernel_rfl)))
      have f40 := (h4 17 40 (by kernel_rfl) (by kernel_rfl)).trans (hJ.knw 17 (by omega) (hd 17 (by kernel_rfl)))
      dsimp only [List.getD, List.getElem?_cons_zero, List.getElem?_cons_succ, Option.getD] at f36 f40
      have HJ' := hid hJ
      clear hJ
      unfold OpY
      go_simp
      exact By.get 18 (by omega) HJ'.out
    · have f0 := h5 0 (by kernel_rfl)
      have HJ' := hid hJ
      clear hJ
      unfold OpY
      go_simp
      exact By.get 19 (by omega) HJ'.out
    · have f42 := (h4 19 42 (by kernel_rfl) (by kernel_rfl)).trans (hJ.knw 19 (by omega) (hd 19 (by kernel_rfl)))
      dsimp only [List.getD, List.getElem?_cons_zero, List.getElem?_cons_succ, Option.getD] at f42
      have HJ' := hid hJ
      clear hJ
      unfold OpY
      go_simp
      exact By.get 20 (by omega) HJ'.out
    · have f43 := (h4 20 43 (by kernel_rfl) (by kernel_rfl)).trans (hJ.knw 20 (by omega) (hd 20 (by kernel_rfl)))
      dsimp only [List.getD, List.getElem?_cons_zero, List.getElem?_cons_succ, Option.getD] at f43
      have HJ' := hid hJ
      clear hJ
      unfold OpY
      go_simp
      exact By.get 21 (by omega) HJ'.out
    · have f44 := (h4 21 44 (by kernel_rfl) (by kernel_rfl)).trans (hJ.knw 21 (by omega) (hd 21 (by kernel_rfl)))
      dsimp only [List.getD, List.getElem?_cons_zero, List.getElem?_cons_succ, Option.getD] at f44
      have z := later hJ.mid c0
      have HJ' := hid hJ
      clear hJ
      unfold OpY
      go_simp
      exact By.get 22 (by omega) HJ'.out
    · have f41 := (h4 18 41 (by kernel_rfl) (by kernel_rfl)).trans (hJ.knw 18 (by omega) (hd 18 (by kernel_rfl)))
      have f45 := (h4 22 45 (by kernel_rfl) (by kernel_rfl)).trans (hJ.knw 22 (by omega) (hd 22 (by kernel_rfl)))
      dsimp only [List.getD, List.getElem?_cons_zero, List.getElem?_cons_succ, Option.getD] at f41 f45
      have HJ' := hid hJ
      clear hJ
      unfold OpY
      go_simp
      exact By.get 23 (by omega) HJ'.out
    · have f30 := (h4 7 30 (by kernel_rfl) (by kernel_rfl)).trans (hJ.knw 7 (by omega) (hd 7 (by kernel_rfl)))
      have f46 := (h4 23 46 (by kernel_rfl) (by kernel_rfl)).trans (hJ.knw 23 (by omega) (hd 23 (by kernel_rfl)))
      dsimp only [List.getD, List.getElem?_cons_zero, List.getElem?_cons_succ, Option.getD] at f30 f46
      have HJ' := hid hJ
      clear hJ
      unfold OpY
      go_simp
      exact By.get 24 (by omega) HJ'.out
    · skip
      have HJ' := hid hJ
      clear hJ
      unfold OpY
      go_simp
      exact By.alloc rfl hi HJ'.out
    · have g1 := hd 25 (by kernel_rfl)
      have g2 := hJ.knw 24 (by omega) (hd 24 (by kernel_rfl))
      obtain ⟨b', cs, g3, g4, g5, g6, -⟩ := hJ.als g1
      obtain ⟨z0, z1, z2, z3, z4, z5, z6, rfl⟩ := arrE7 g6
      have f1 := (h4 25 7 (by kernel_rfl) (by kernel_rfl)).trans g3
      have f2 := (h4 24 47 (by kernel_rfl) (by kernel_rfl)).trans g2
      dsimp only [List.getD, List.getElem?_cons_zero, List.getElem?_cons_succ, Option.getD] at f2
      have HH := hid g5
      have s0 := HH.out.free 0
      have s1 := HH.out.free 1
      have s2 := HH.out.free 2
      have s3 := HH.out.free 3
      have s4 := HH.out.free 4
      have s5 := HH.out.free 5
      have s6 := HH.out.free 6
      have u0 := HH.out.cell 0 (v := z0) rfl
      have u1 := HH.out.cell 1 (v := z1) rfl
      have u2 := HH.out.cell 2 (v := z2) rfl
      have u3 := HH.out.cell 3 (v := z3) rfl
      have u4 := HH.out.cell 4 (v := z4) rfl
      have u5 := HH.out.cell 5 (v := z5) rfl
      have u6 := HH.out.cell 6 (v := z6) rfl
      have G3 := hid g3
      clear g2 g3 g5
      have HJ' := hid hJ
      clear hJ
      unfold OpY
      go_simp
      exact By.store b' rfl g1 G3.out HJ'.out
  case hdone =>
    intro vs w3 hJ
    obtain ⟨L, cs0, e0, g0, k0, -, z0⟩ := hJ.als rfl
    obtain rfl := z0 rfl
    have e0 : vs 25 = _ := e0
    rw [e0]
    have HS : Hid (RSt T V S c s W C b L w3 y2 ⟨kk, (th : Int), 0, 0, 0, 0, 0⟩) := hid (RSt.below (w := w3) ⟨by have := Nat.lt_of_lt_of_le HZW.out g0; have := HNS.out; omega, k0, HC2.out.below hJ.mid, HZ2.out.below hJ.mid, Blk.below hJ.mid HR2.out, HT2.out.trans (Turn.of_below hJ.mid), HYO.out⟩ (ext_refl _))
    have d0 := HS.out.be.cell 0 (v := .int .u8 kk) rfl
    have HNB := hid HS.out.nb
    have HL : Hid (L ∉ [b]) := hid HNB.out.1
    have HC : Hid (C ∉ [b]) := hid HNB.out.2.1
    have HKE : Hid (∀ (r : Rdr) w w', RRd w b s r.at_ r.err → (∀ k ∈ [b], w'.heap[k]? = w.heap[k]?) → RRd w' b s r.at_ r.err) := hid rr_keep
    have jt0 : (0 : Int) ≤ (th : Int) := by omega
    have jt6 : (th : Int) < 6 := by have := HTH.out; omega
    clear hJ e0 k0 z0 c0 c3 HC2 HZ2 HR2 HT2 m1 m2 t0 t1 t2 t3 t4 hq1 hq2 hq3 hq4 q1 q2 q3 q4 q5 g0 HZW HNB
    rcases HK13.out with hk | hk | hk | hk | hk | hk | hk | hk | hk | hk | hk | hk | hk
    · subst hk
      have HT1 := hid (HS.out.told (most := 5) HSZ.out (by decide))
      have hle1 := numR_le y2 (5)
      obtain ⟨b1, hb1⟩ : ∃ q, q = numR y2 (5) := ⟨_, rfl⟩
      rw [← hb1] at HT1 hle1
      have HEQ1 := hid hb1.symm
      have HLE1 := hid hle1
      clear hb1 hle1
      go_wp2_with fail
      refine HT1.out.mono ?_
      rintro e' w4 ⟨rfl, hS⟩
      have c2 := hS.be.cell 2 (v := .int .i64 0) rfl
      have z2 := hS.be.free 2
      have HS5 := hid (hS.set 2 (.int .i64 (b1.1 : Int)) (e2 := ⟨1, (th : Int), (b1.1 : Int), 0, 0, 0, 0⟩) rfl)
      clear hS HT1 HS
      have HO1 := hid HS5.out.ok
      have HN := hid (fun W' (h : RRd W' b s b1.2.at_ b1.2.err) => told_r (most := (1099511627776 - c.clock).toNat) h HSZ.out HO1.out (by have := HOK.out.clock; unfold maxClockN at this; omega))
      rw [tn (show 0 ≤ 1099511627776 - c.clock by have := HOK.out.clock; unfold maxClockN at this; omega)] at HN
      have hle2 := numR_le b1.2 (1099511627776 - c.clock).toNat
      have hok2 := (numR_ok HO1.out (1099511627776 - c.clock).toNat).1
      obtain ⟨b2, hb2⟩ : ∃ q, q = numR b1.2 (1099511627776 - c.clock).toNat := ⟨_, rfl⟩
      rw [← hb2] at HN hle2 hok2
      have HEQ2 : Hid (numR b1.2 (maxClockN - c.clock).toNat = b2) := hid hb2.symm
      have HOK2 := hid hok2
      have j2 : IntKind.i64.wrap (1099511627776 - c.clock) = 1099511627776 - c.clock := IntWalk.i64_in _ (by have := HOK.out.clock; unfold maxClockN at this; omega)
      have j3 : IntKind.i64.wrap (c.clock + (b2.1 : Int)) = c.clock + (b2.1 : Int) := IntWalk.i64_in _ (by have := HOK.out.clock; unfold maxClockN at this; omega)
      clear hb2 hle2 hok2
      go_wp2_with fail
      generalize w4.setCell ⟨L, 2, none⟩ (.int .i64 (b1.1 : Int)) = w5 at *
      clear c2 z2 d0
      have HBL := hid HS5.out.be
      have HBC := hid HS5.out.bc
      have HA := hid (HS5.out.below (ext_drew (ext_refl _))).rd
      apply wp_region_knownJ (fun qq => ([.pointer (some ⟨C, 0, none⟩), .pointer (some ⟨C, 0, none⟩), .pointer (some ⟨C, 4, none⟩), .int .i64 (c.clock), .pointer (some ⟨b, 0, none⟩), .pointer (some ⟨C, 0, none⟩), .pointer (some ⟨C, 0, none⟩), .pointer (some ⟨C, 4, none⟩), .int .i64 (c.clock), .int .i64 (1099511627776 - c.clock), .int .i64 ((b2.1 : Int)), .int .i64 (c.clock + (b2.1 : Int)), .pointer (some ⟨L, 4, none⟩), undef] : List Value).getD qq undef) (LJ w5 [b] (fun (r : Rdr) w => RRd w b s r.at_ r.err) b2.2 L (ecA ⟨1, (th : Int), (b1.1 : Int), 0, c.clock + (b2.1 : Int), 0, 0⟩) 33 14 10 13)
      focus (simp [putAll, dstOf, Act.put, List.getD]; rfl)
      case hm => kernel_rfl
      case hd => kernel_rfl
      case hb => kernel_rfl
      case hng => kernel_rfl
      case hsz => kernel_rfl
      case hext => exact fun l l' w h H => H.ext (by decide) (by decide) (fun i hi => h i hi)
      case h0 => exact LJ.start
      case hstep =>
        refine ⟨?_, ?_, ?_, ?_, ?_, ?_, ?_, ?_, ?_, ?_, ?_, ?_, ?_, ?_,  trivial⟩
        · refine ⟨(fun g b h => by cases h), fun l w' hl hdp hJ hg ρ h1 h2 h3 h4 h5 => ?_⟩
          have HJ := hid hJ
          clear hJ
          have f0 : ρ (.tmp 0) = .pointer (some ⟨C, 0, none⟩) := h5 0 (by kernel_rfl)
          have h0 := HJ.out.not (i := 0) (by decide) (by decide) hl
          clear h0 h4 h5 hg
          unfold OpY
          go_simp
          first | exact ⟨rfl, HJ.out.put (i := 0) (by decide) (by decide) (by decide) hl (fun e => absurd e (by decide)) (fun e => absurd e (by decide))⟩ | exact ⟨Or.inr rfl, HJ.out.put (i := 0) (by decide) (by decide) (by decide) hl (fun e => absurd e (by decide)) (fun e => absurd e (by decide))⟩
        · refine ⟨(fun g b h => by cases h), fun l w' hl hdp hJ hg ρ h1 h2 h3 h4 h5 => ?_⟩
          have HJ := hid hJ
          clear hJ
          have f55 : ρ (.tmp 55) = .pointer (some ⟨C, 0, none⟩) := h4 0 55 (by kernel_rfl) (by kernel_rfl)
          have h0 := HJ.out.not (i := 1) (by decide) (by decide) hl
          clear h0 h4 h5 hg
          unfold OpY
          go_simp
          first | exact ⟨rfl, HJ.out.put (i := 1) (by decide) (by decide) (by decide) hl (fun e => absurd e (by decide)) (fun e => absurd e (by decide))⟩ | exact ⟨Or.inr rfl, HJ.out.put (i := 1) (by decide) (by decide) (by decide) hl (fun e => absurd e (by decide)) (fun e => absurd e (by decide))⟩
        · refine ⟨(fun g b h => by cases h), fun l w' hl hdp hJ hg ρ h1 h2 h3 h4 h5 => ?_⟩
          have HJ := hid hJ
          clear hJ
          have f56 : ρ (.tmp 56) = .pointer (some ⟨C, 0, none⟩) := h4 1 56 (by kernel_rfl) (by kernel_rfl)
          have h0 := HJ.out.not (i := 2) (by decide) (by decide) hl
          clear h0 h4 h5 hg
          unfold OpY
          go_simp
          first | exact ⟨rfl, HJ.out.put (i := 2) (by decide) (by decide) (by decide) hl (fun e => absurd e (by decide)) (fun e => absurd e (by decide))⟩ | exact ⟨Or.inr rfl, HJ.out.put (i := 2) (by decide) (by decide) (by decide) hl (fun e => absurd e (by decide)) (fun e => absurd e (by decide))⟩
        · refine ⟨(fun g b h => by cases h), fun l w' hl hdp hJ hg ρ h1 h2 h3 h4 h5 => ?_⟩
          have HJ := hid hJ
          clear hJ
          have f57 : ρ (.tmp 57) = .pointer (some ⟨C, 4, none⟩) := h4 2 57 (by kernel_rfl) (by kernel_rfl)
          have h0 := HJ.out.not (i := 3) (by decide) (by decide) hl
          have c : w'.cell? ⟨C, 4, none⟩ = some (.int .i64 (c.clock)) := ((HJ.out.turn h0).blk HC.out HBC.out).cell 4 rfl
          clear h0 h4 h5 hg
          unfold OpY
          go_simp
          first | exact ⟨rfl, HJ.out.put (i := 3) (by decide) (by decide) (by decide) hl (fun e => absurd e (by decide)) (fun e => absurd e (by decide))⟩ | exact ⟨Or.inr rfl, HJ.out.put (i := 3) (by decide) (by decide) (by decide) hl (fun e => absurd e (by decide)) (fun e => absurd e (by decide))⟩
        · refine ⟨(fun g b h => by cases h), fun l w' hl hdp hJ hg ρ h1 h2 h3 h4 h5 => ?_⟩
          have HJ := hid hJ
          clear hJ
          have f1 : ρ (.tmp 1) = .pointer (some ⟨b, 0, none⟩) := h5 1 (by kernel_rfl)
          have h0 := HJ.out.not (i := 4) (by decide) (by decide) hl
          clear h0 h4 h5 hg
          unfold OpY
          go_simp
          first | exact ⟨rfl, HJ.out.put (i := 4) (by decide) (by decide) (by decide) hl (fun e => absurd e (by decide)) (fun e => absurd e (by decide))⟩ | exact ⟨Or.inr rfl, HJ.out.put (i := 4) (by decide) (by decide) (by decide) hl (fun e => absurd e (by decide)) (fun e => absurd e (by decide))⟩
        · refine ⟨(fun g b h => by cases h), fun l w' hl hdp hJ hg ρ h1 h2 h3 h4 h5 => ?_⟩
          have HJ := hid hJ
          clear hJ
          have f0 : ρ (.tmp 0) = .pointer (some ⟨C, 0, none⟩) := h5 0 (by kernel_rfl)
          have h0 := HJ.out.not (i := 5) (by decide) (by decide) hl
          clear h0 h4 h5 hg
          unfold OpY
          go_simp
          first | exact ⟨rfl, HJ.out.put (i := 5) (by decide) (by decide) (by decide) hl (fun e => absurd e (by decide)) (fun e => absurd e (by decide))⟩ | exact ⟨Or.inr rfl, HJ.out.put (i := 5) (by decide) (by decide) (by decide) hl (fun e => absurd e (by decide)) (fun e => absurd e (by decide))⟩
        · refine ⟨(fun g b h => by cases h), fun l w' hl hdp hJ hg ρ h1 h2 h3 h4 h5 => ?_⟩
          have HJ := hid hJ
          clear hJ
          have f60 : ρ (.tmp 60) = .pointer (some ⟨C, 0, none⟩) := h4 5 60 (by kernel_rfl) (by kernel_rfl)
          have h0 := HJ.out.not (i := 6) (by decide) (by decide) hl
          clear h0 h4 h5 hg
          unfold OpY
          go_simp
          first | exact ⟨rfl, HJ.out.put (i := 6) (by decide) (by decide) (by decide) hl (fun e => absurd e (by decide)) (fun e => absurd e (by decide))⟩ | exact ⟨Or.inr rfl, HJ.out.put (i := 6) (by decide) (by decide) (by decide) hl (fun e => absurd e (by decide)) (fun e => absurd e (by decide))⟩
        · refine ⟨(fun g b h => by cases h), fun l w' hl hdp hJ hg ρ h1 h2 h3 h4 h5 => ?_⟩
          have HJ := hid hJ
          clear hJ
          have f61 : ρ (.tmp 61) = .pointer (some ⟨C, 0, none⟩) := h4 6 61 (by kernel_rfl) (by kernel_rfl)
          have h0 := HJ.out.not (i := 7) (by decide) (by decide) hl
          clear h0 h4 h5 hg
          unfold OpY
          go_simp
          first | exact ⟨rfl, HJ.out.put (i := 7) (by decide) (by decide) (by decide) hl (fun e => absurd e (by decide)) (fun e => absurd e (by decide))⟩ | exact ⟨Or.inr rfl, HJ.out.put (i := 7) (by decide) (by decide) (by decide) hl (fun e => absurd e (by decide)) (fun e => absurd e (by decide))⟩
        · refine ⟨(fun g b h => by cases h), fun l w' hl hdp hJ hg ρ h1 h2 h3 h4 h5 => ?_⟩
          have HJ := hid hJ
          clear hJ
          have f62 : ρ (.tmp 62) = .pointer (some ⟨C, 4, none⟩) := h4 7 62 (by kernel_rfl) (by kernel_rfl)
          have h0 := HJ.out.not (i := 8) (by decide) (by decide) hl
          have c : w'.cell? ⟨C, 4, none⟩ = some (.int .i64 (c.clock)) := ((HJ.out.turn h0).blk HC.out HBC.out).cell 4 rfl
          clear h0 h4 h5 hg
          unfold OpY
          go_simp
          first | exact ⟨rfl, HJ.out.put (i := 8) (by decide) (by decide) (by decide) hl (fun e => absurd e (by decide)) (fun e => absurd e (by decide))⟩ | exact ⟨Or.inr rfl, HJ.out.put (i := 8) (by decide) (by decide) (by decide) hl (fun e => absurd e (by decide)) (fun e => absurd e (by decide))⟩
        · refine ⟨(fun g b h => by cases h), fun l w' hl hdp hJ hg ρ h1 h2 h3 h4 h5 => ?_⟩
          have HJ := hid hJ
          clear hJ
          have f63 : ρ (.tmp 63) = .int .i64 (c.clock) := h4 8 63 (by kernel_rfl) (by kernel_rfl)
          have h0 := HJ.out.not (i := 9) (by decide) (by decide) hl
          clear h0 h4 h5 hg
          unfold OpY
          go_simp
          first | exact ⟨rfl, HJ.out.put (i := 9) (by decide) (by decide) (by decide) hl (fun e => absurd e (by decide)) (fun e => absurd e (by decide))⟩ | exact ⟨Or.inr rfl, HJ.out.put (i := 9) (by decide) (by decide) (by decide) hl (fun e => absurd e (by decide)) (fun e => absurd e (by decide))⟩
        · refine ⟨(fun g b h => by cases h), fun l w' hl hdp hJ hg ρ h1 h2 h3 h4 h5 => ?_⟩
          have HJ := hid hJ
          clear hJ
          have f59 : ρ (.tmp 59) = .pointer (some ⟨b, 0, none⟩) := h4 4 59 (by kernel_rfl) (by kernel_rfl)
          have f64 : ρ (.tmp 64) = .int .i64 (1099511627776 - c.clock) := h4 9 64 (by kernel_rfl) (by kernel_rfl)
          clear h4 h5 hg
          unfold OpY
          go_simp
          unfold OpR
          have h0 := HJ.out.pre hl
          subst h0
          refine (HN.out _ HA.out).mono ?_
          rintro e' w'' ⟨rfl, ha', ht'⟩
          first | exact ⟨_, rfl, rfl, HJ.out.call (by decide) (by decide) hl (by decide) ha' ht'⟩ | exact ⟨_, rfl, Or.inr rfl, HJ.out.call (by decide) (by decide) hl (by decide) ha' ht'⟩
        · refine ⟨(fun g b h => by cases h), fun l w' hl hdp hJ hg ρ h1 h2 h3 h4 h5 => ?_⟩
          have HJ := hid hJ
          clear hJ
          have f58 : ρ (.tmp 58) = .int .i64 (c.clock) := h4 3 58 (by kernel_rfl) (by kernel_rfl)
          have f65 : ρ (.tmp 65) = .int .i64 ((b2.1 : Int)) := h4 10 65 (by kernel_rfl) (by kernel_rfl)
          have h0 := HJ.out.not (i := 11) (by decide) (by decide) hl
          clear h0 h4 h5 hg
          unfold OpY
          go_simp
          first | exact ⟨rfl, HJ.out.put (i := 11) (by decide) (by decide) (by decide) hl (fun e => absurd e (by decide)) (fun _ => hdp 10 (by kernel_rfl))⟩ | exact ⟨Or.inr rfl, HJ.out.put (i := 11) (by decide) (by decide) (by decide) hl (fun e => absurd e (by decide)) (fun _ => hdp 10 (by kernel_rfl))⟩
        · refine ⟨(fun g b h => by cases h), fun l w' hl hdp hJ hg ρ h1 h2 h3 h4 h5 => ?_⟩
          have HJ := hid hJ
          clear hJ
          have f7 : ρ (.tmp 7) = .pointer (some ⟨L, 0, none⟩) := h5 7 (by kernel_rfl)
          have h0 := HJ.out.not (i := 12) (by decide) (by decide) hl
          clear h0 h4 h5 hg
          unfold OpY
          go_simp
          first | exact ⟨rfl, HJ.out.put (i := 12) (by decide) (by decide) (by decide) hl (fun _ => hdp 11 (by kernel_rfl)) (fun e => absurd e (by decide))⟩ | exact ⟨Or.inr rfl, HJ.out.put (i := 12) (by decide) (by decide) (by decide) hl (fun _ => hdp 11 (by kernel_rfl)) (fun e => absurd e (by decide))⟩
        · refine ⟨(fun g b h => by cases h), fun l w' hl hdp hJ hg ρ h1 h2 h3 h4 h5 => ?_⟩
          have HJ := hid hJ
          clear hJ
          have f67 : ρ (.tmp 67) = .pointer (some ⟨L, 4, none⟩) := h4 12 67 (by kernel_rfl) (by kernel_rfl)
          have f66 : ρ (.tmp 66) = .int .i64 (c.clock + (b2.1 : Int)) := h4 11 66 (by kernel_rfl) (by kernel_rfl)
          have h15 := hdp 12 (by kernel_rfl)
          have h14 := HJ.out.d1 h15
          have h13 := HJ.out.d2 h14
          have hall : ∀ q, q < 14 → q ≠ 13 → l q = true := all_of (si := 13) h13 h14 (by kernel_rfl) hdp
          have h0 := hl
          have hb := (HJ.out.turn h0).blk HL.out HBL.out
          have cc := hb.cell 4 rfl
          have zz := hb.free 4
          have HALL := hid hall
          clear hall hb h0 h13 h14 h15 h4 h5 hg
          unfold OpY
          go_simp
          exact HJ.out.store HKE.out HL.out HBL.out (by decide) (by decide) (by decide) hl HALL.out rfl
      case hdone =>
        intro w6 hJ
        have HF := hid (hJ.fin rfl)
        have HS6 := hid (HS5.out.turn (e2 := ⟨1, (th : Int), (b1.1 : Int), 0, c.clock + (b2.1 : Int), 0, 0⟩) HF.out.2.1 HF.out.2.2 HF.out.1 HOK2.out)
        clear hJ HF HBL HBC HA HN HS5
        obtain ⟨ev, hev⟩ : ∃ ev : Ev, ev = ⟨1, (th : Int), (b1.1 : Int), 0, c.clock + (b2.1 : Int), 0, 0⟩ := ⟨_, rfl⟩
        obtain ⟨zr, hzr⟩ : ∃ zr : Rdr, zr = b2.2 := ⟨_, rfl⟩
        have HX : Hid (lineR T V S c r0 = (ev, zr)) := hid (by
          rw [HRC.out, hev, hzr, ← HEQ2.out, ← HEQ1.out]
          first | rfl | (unfold lineX; simp))
        have HE : Hid (RSt T V S c s W C b L w6 zr ev) := hid (by rw [hev, hzr]; exact HS6.out)
        have HWR := hid (qwrong_any b s zr.at_ zr.err _ HE.out.rd)
        clear hev hzr HS6
        try clear HKE
        go_wp2_with fail
        refine HWR.out.mono ?_
        rintro e' W7 ⟨rfl, hb7⟩
        have HE7 := hid (HE.out.below hb7)
        have x0 := HE7.out.bz.cell 0 (v := .int .u8 0) rfl
        have x1 := HE7.out.bz.cell 1 (v := .int .i64 0) rfl
        have x2 := HE7.out.bz.cell 2 (v := .int .i64 0) rfl
        have x3 := HE7.out.bz.cell 3 (v := .int .i64 0) rfl
        have x4 := HE7.out.bz.cell 4 (v := .int .i64 0) rfl
        have x5 := HE7.out.bz.cell 5 (v := .int .i64 0) rfl
        have x6 := HE7.out.bz.cell 6 (v := .int .u8 0) rfl
        have y0 := HE7.out.bz.free 0
        have y1 := HE7.out.bz.free 1
        have y2 := HE7.out.bz.free 2
        have y3 := HE7.out.bz.free 3
        have y4 := HE7.out.bz.free 4
        have y5 := HE7.out.bz.free 5
        have y6 := HE7.out.bz.free 6
        clear hb7 HE HWR
        by_cases he : zr.err = 0
        · obtain ⟨ta, -, -, -⟩ := read_anew (T := T) (V := V) (S := S) (c := c) (s := byt s) (at_ := at_) (e := ev) (r' := zr) ⟨HTV.out.1.1, HTV.out.1.2, HTV.out.2.1.1, HTV.out.2.1.2, HTV.out.2.2.1, HTV.out.2.2.2⟩ HOK.out (byt_lt s) (by rw [← HR0.out]; exact HX.out) he
          have g1 : ((zr.err : Int) != 0) = false := by rw [he]; rfl
          obtain ⟨ek, eth, etx, ea, ev', ex, ewhy⟩ := ev
          have hth0 : 0 ≤ eth := by
            have h1 := ta
            unfold tellsC at h1
            rw [Bool.and_eq_true] at h1
            obtain ⟨-, ⟨-, -, -, t1, -⟩, -⟩ := may_sizes' h1.1
            dsimp only at t1
            omega
          obtain ⟨th2, rfl⟩ := Int.eq_ofNat_of_zero_le hth0
          obtain ⟨w1', w2', w3'⟩ := w_ats ta
          have l0 := HE7.out.be.cell 0 (v := .int .u8 ek) rfl
          have l1 := HE7.out.be.cell 1 (v := .int .i64 (th2 : Int)) rfl
          have l2 := HE7.out.be.cell 2 (v := .int .i64 etx) rfl
          have l3 := HE7.out.be.cell 3 (v := .int .i64 ea) rfl
          have l4 := HE7.out.be.cell 4 (v := .int .i64 ev') rfl
          have l5 := HE7.out.be.cell 5 (v := .int .i64 ex) rfl
          have l6 := HE7.out.be.cell 6 (v := .int .u8 ewhy) rfl
          have HKN := hid (qknows_any T V S c ek etx ea ev' ex ewhy th2 ea.toNat C W7 HE7.out.bc w1' w2' w3')
          dsimp only [evA] at HKN
          clear ta hth0 w1' w2' w3' x0 x1 x2 x3 x4 x5 x6 y0 y1 y2 y3 y4 y5 y6
          go_wp2_with fail
          refine HKN.out.mono ?_
          rintro e' W8 ⟨rfl, hC8, hT8⟩
          have hne := HE7.out.ne
          have hE8 := hT8.blk (k := W.heap.size) (by simp only [List.mem_cons, List.not_mem_nil, or_false]; omega) HE7.out.bz
          have hL8 := hT8.blk (k := L) (by simp only [List.mem_cons, List.not_mem_nil, or_false]; omega) HE7.out.be
          have hR8 : RRd W8 b s zr.at_ zr.err := Turn.blk hT8 (by simp only [List.mem_cons, List.not_mem_nil, or_false]; omega) HE7.out.rd
          have l0 := hL8.cell 0 (v := .int .u8 ek) rfl
          have l1 := hL8.cell 1 (v := .int .i64 (th2 : Int)) rfl
          have l2 := hL8.cell 2 (v := .int .i64 etx) rfl
          have l3 := hL8.cell 3 (v := .int .i64 ea) rfl
          have l4 := hL8.cell 4 (v := .int .i64 ev') rfl
          have l5 := hL8.cell 5 (v := .int .i64 ex) rfl
          have l6 := hL8.cell 6 (v := .int .u8 ewhy) rfl
          have x0 := hE8.cell 0 (v := .int .u8 0) rfl
          have y0 := hE8.free 0
          have x1 := hE8.cell 1 (v := .int .i64 0) rfl
          have y1 := hE8.free 1
          have x2 := hE8.cell 2 (v := .int .i64 0) rfl
          have y2 := hE8.free 2
          have x3 := hE8.cell 3 (v := .int .i64 0) rfl
          have y3 := hE8.free 3
          have x4 := hE8.cell 4 (v := .int .i64 0) rfl
          have y4 := hE8.free 4
          have x5 := hE8.cell 5 (v := .int .i64 0) rfl
          have y5 := hE8.free 5
          have x6 := hE8.cell 6 (v := .int .u8 0) rfl
          have y6 := hE8.free 6
          have HE8 := hid hE8
          have HR8 := hid hR8
          have HC8 := hid hC8
          have HT8 := hid hT8
          have HNE := hid hne
          clear hE8 hL8 hR8 hC8 hT8 hne
          go_wp2_with fail
          have hF := dset7 HE8.out (.int .u8 ek) (.int .i64 (th2 : Int)) (.int .i64 etx) (.int .i64 ea) (.int .i64 ev') (.int .i64 ex) (.int .u8 ewhy)
          have q0 := hF.cell 0 (v := .int .u8 ek) rfl
          have q1 := hF.cell 1 (v := .int .i64 (th2 : Int)) rfl
          have q2 := hF.cell 2 (v := .int .i64 etx) rfl
          have q3 := hF.cell 3 (v := .int .i64 ea) rfl
          have q4 := hF.cell 4 (v := .int .i64 ev') rfl
          have q5 := hF.cell 5 (v := .int .i64 ex) rfl
          have q6 := hF.cell 6 (v := .int .u8 ewhy) rfl
          exact bodyPost_ret (v := .tuple #[.agg #[.int .u8 ek, .int .i64 (th2 : Int), .int .i64 etx, .int .i64 ea, .int .i64 ev', .int .i64 ex, .int .u8 ewhy], .int .i64 0]) (by simp [results, Tryd.results23, go_sem, q0, q1, q2, q3, q4, q5, q6]) rfl (by
            rw [HQ.out]
            have hrc : readC T V S c r0 = (⟨ek, (th2 : Int), etx, ea, ev', ex, ewhy⟩, 0, zr, knowsC c ⟨ek, (th2 : Int), etx, ea, ev', ex, ewhy⟩) := by
              unfold readC
              rw [HX.out]
              dsimp only
              rw [if_neg (by rw [he]; decide)]
            unfold RReadP
            rw [hrc]
            have hne := HNE.out
            refine ⟨rfl, dfar7 HC8.out (by omega) _ _ _ _ _ _ _, dfar7 HR8.out (by omega) _ _ _ _ _ _ _, ?_⟩
            exact dturn7 ((HE7.out.tu.mono (by simp)).trans (HT8.out.mono (by simp))) (Nat.le_refl _) _ _ _ _ _ _ _)
        · have g1 : ((zr.err : Int) != 0) = true := by rw [bne_iff_ne]; omega
          go_wp2_with fail
          have hF := dset7 HE7.out.bz (.int .u8 0) (.int .i64 0) (.int .i64 0) (.int .i64 0) (.int .i64 0) (.int .i64 0) (.int .u8 0)
          have q0 := hF.cell 0 (v := .int .u8 0) rfl
          have q1 := hF.cell 1 (v := .int .i64 0) rfl
          have q2 := hF.cell 2 (v := .int .i64 0) rfl
          have q3 := hF.cell 3 (v := .int .i64 0) rfl
          have q4 := hF.cell 4 (v := .int .i64 0) rfl
          have q5 := hF.cell 5 (v := .int .i64 0) rfl
          have q6 := hF.cell 6 (v := .int .u8 0) rfl
          exact bodyPost_ret (v := .tuple #[.agg #[.int .u8 0, .int .i64 0, .int .i64 0, .int .i64 0, .int .i64 0, .int .i64 0, .int .u8 0], .int .i64 (zr.err : Int)]) (by simp [results, Tryd.results23, go_sem, q0, q1, q2, q3, q4, q5, q6]) rfl (by
            rw [HQ.out]
            have hrc : readC T V S c r0 = (⟨0, 0, 0, 0, 0, 0, 0⟩, zr.err, zr, c) := by
              unfold readC
              rw [HX.out]
              dsimp only
              rw [if_pos he]
            unfold RReadP
            rw [hrc]
            have hne := HE7.out.ne
            refine ⟨rfl, dfar7 HE7.out.bc (by omega) _ _ _ _ _ _ _, dfar7 HE7.out.rd (by omega) _ _ _ _ _ _ _, ?_⟩
            exact dturn7 (HE7.out.tu.mono (by simp)) (Nat.le_refl _) _ _ _ _ _ _ _)
    · subst hk
      have HT1 := hid (HS.out.told (most := (S - 1).toNat) HSZ.out (by have := HTV.out; omega))
      rw [tn (show 0 ≤ S - 1 by have := HTV.out; omega)] at HT1
      have hle1 := numR_le y2 ((S - 1).toNat)
      obtain ⟨b1, hb1⟩ : ∃ q, q = numR y2 ((S - 1).toNat) := ⟨_, rfl⟩
      rw [← hb1] at HT1 hle1
      have HEQ1 := hid hb1.symm
      have HLE1 := hid hle1
      clear hb1 hle1
      have k2 := HS.out.bc.cell 2 (v := .int .i64 S) rfl
      have j1 : IntKind.i64.wrap (S - 1) = S - 1 := IntWalk.i64_in _ (by have := HTV.out; omega)
      go_wp2_with fail
      refine HT1.out.mono ?_
      rintro e' w4 ⟨rfl, hS⟩
      have c2 := hS.be.cell 3 (v := .int .i64 0) rfl
      have z2 := hS.be.free 3
      have HS5 := hid (hS.set 3 (.int .i64 (b1.1 : Int)) (e2 := ⟨2, (th : Int), 0, (b1.1 : Int), 0, 0, 0⟩) rfl)
      clear hS HT1 HS
      have HO1 := hid HS5.out.ok
      have HN := hid (fun W' (h : RRd W' b s b1.2.at_ b1.2.err) => told_r (most := (c.begun (th : Int)).toNat) h HSZ.out HO1.out (by have := HOK.out.begun (th : Int); unfold maxClockN at this; omega))
      rw [tn (show 0 ≤ c.begun (th : Int) by have := HOK.out.begun (th : Int); unfold maxClockN at this; omega)] at HN
      have hle2 := numR_le b1.2 (c.begun (th : Int)).toNat
      have hok2 := (numR_ok HO1.out (c.begun (th : Int)).toNat).1
      obtain ⟨b2, hb2⟩ : ∃ q, q = numR b1.2 (c.begun (th : Int)).toNat := ⟨_, rfl⟩
      rw [← hb2] at HN hle2 hok2
      have HEQ2 : Hid (numR b1.2 (c.begun (th : Int)).toNat = b2) := hid hb2.symm
      have HOK2 := hid hok2
      have j3 : IntKind.i64.wrap (c.begun (th : Int) - (b2.1 : Int)) = c.begun (th : Int) - (b2.1 : Int) := IntWalk.i64_in _ (by have := HOK.out.begun (th : Int); unfold maxClockN at this; omega)
      clear hb2 hle2 hok2
      go_wp2_with fail
      generalize w4.setCell ⟨L, 3, none⟩ (.int .i64 (b1.1 : Int)) = w5 at *
      clear c2 z2 d0 k2 j1
      have HBL := hid HS5.out.be
      have HBC := hid HS5.out.bc
      have HA := hid (HS5.out.below (ext_drew (ext_refl _))).rd
      apply wp_region_knownJ (fun qq => ([.pointer (some ⟨C, 0, none⟩), .pointer (some ⟨L, 1, none⟩), .int .i64 ((th : Int)), .pointer (some ⟨C, 0, none⟩), .pointer (some ⟨C, 5, none⟩), .pointer (some ⟨C, 5 + th, none⟩), .int .i64 (c.begun (th : Int)), .pointer (some ⟨b, 0, none⟩), .pointer (some ⟨C, 0, none⟩), .pointer (some ⟨L, 1, none⟩), .int .i64 ((th : Int)), .pointer (some ⟨C, 0, none⟩), .pointer (some ⟨C, 5, none⟩), .pointer (some ⟨C, 5 + th, none⟩), .int .i64 (c.begun (th : Int)), .int .i64 ((b2.1 : Int)), .int .i64 (c.begun (th : Int) - (b2.1 : Int)), .pointer (some ⟨L, 4, none⟩), undef] : List Value).getD qq undef) (LJ w5 [b] (fun (r : Rdr) w => RRd w b s r.at_ r.err) b2.2 L (ecA ⟨2, (th : Int), 0, (b1.1 : Int), c.begun (th : Int) - (b2.1 : Int), 0, 0⟩) 33 19 15 18)
      focus (simp [putAll, dstOf, Act.put, List.getD]; rfl)
      case hm => kernel_rfl
      case hd => kernel_rfl
      case hb => kernel_rfl
      case hng => kernel_rfl
      case hsz => kernel_rfl
      case hext => exact fun l l' w h H => H.ext (by decide) (by decide) (fun i hi => h i hi)
      case h0 => exact LJ.start
      case hstep =>
        refine ⟨?_, ?_, ?_, ?_, ?_, ?_, ?_, ?_, ?_, ?_, ?_, ?_, ?_, ?_, ?_, ?_, ?_, ?_, ?_,  trivial⟩
        · refine ⟨(fun g b h => by cases h), fun l w' hl hdp hJ hg ρ h1 h2 h3 h4 h5 => ?_⟩
          have HJ := hid hJ
          clear hJ
          have f0 : ρ (.tmp 0) = .pointer (some ⟨C, 0, none⟩) := h5 0 (by kernel_rfl)
          have h0 := HJ.out.not (i := 0) (by decide) (by decide) hl
          clear h0 h4 h5 hg
          unfold OpY
          go_simp
          first | exact ⟨rfl, HJ.out.put (i := 0) (by decide) (by decide) (by decide) hl (fun e => absurd e (by decide)) (fun e => absurd e (by decide))⟩ | exact ⟨Or.inr rfl, HJ.out.put (i := 0) (by decide) (by decide) (by decide) hl (fun e => absurd e (by decide)) (fun e => absurd e (by decide))⟩
        · refine ⟨(fun g b h => by cases h), fun l w' hl hdp hJ hg ρ h1 h2 h3 h4 h5 => ?_⟩
          have HJ := hid hJ
          clear hJ
          have f7 : ρ (.tmp 7) = .pointer (some ⟨L, 0, none⟩) := h5 7 (by kernel_rfl)
          have h0 := HJ.out.not (i := 1) (by decide) (by decide) hl
          clear h0 h4 h5 hg
          unfold OpY
          go_simp
          first | exact ⟨rfl, HJ.out.put (i := 1) (by decide) (by decide) (by decide) hl (fun e => absurd e (by decide)) (fun e => absurd e (by decide))⟩ | exact ⟨Or.inr rfl, HJ.out.put (i := 1) (by decide) (by decide) (by decide) hl (fun e => absurd e (by decide)) (fun e => absurd e (by decide))⟩
        · refine ⟨(fun g b h => by cases h), fun l w' hl hdp hJ hg ρ h1 h2 h3 h4 h5 => ?_⟩
          have HJ := hid hJ
          clear hJ
          have f79 : ρ (.tmp 79) = .pointer (some ⟨L, 1, none⟩) := h4 1 79 (by kernel_rfl) (by kernel_rfl)
          have h0 := HJ.out.not (i := 2) (by decide) (by decide) hl
          have c : w'.cell? ⟨L, 1, none⟩ = some (.int .i64 ((th : Int))) := ((HJ.out.turn h0).blk HL.out HBL.out).cell 1 rfl
          clear h0 h4 h5 hg
          unfold OpY
          go_simp
          first | exact ⟨rfl, HJ.out.put (i := 2) (by decide) (by decide) (by decide) hl (fun e => absurd e (by decide)) (fun e => absurd e (by decide))⟩ | exact ⟨Or.inr rfl, HJ.out.put (i := 2) (by decide) (by decide) (by decide) hl (fun e => absurd e (by decide)) (fun e => absurd e (by decide))⟩
        · refine ⟨(fun g b h => by cases h), fun l w' hl hdp hJ hg ρ h1 h2 h3 h4 h5 => ?_⟩
          have HJ := hid hJ
          clear hJ
          have f78 : ρ (.tmp 78) = .pointer (some ⟨C, 0, none⟩) := h4 0 78 (by kernel_rfl) (by kernel_rfl)
          have h0 := HJ.out.not (i := 3) (by decide) (by decide) hl
          clear h0 h4 h5 hg
          unfold OpY
          go_simp
          first | exact ⟨rfl, HJ.out.put (i := 3) (by decide) (by decide) (by decide) hl (fun e => absurd e (by decide)) (fun e => absurd e (by decide))⟩ | exact ⟨Or.inr rfl, HJ.out.put (i := 3) (by decide) (by decide) (by decide) hl (fun e => absurd e (by decide)) (fun e => absurd e (by decide))⟩
        · refine ⟨(fun g b h => by cases h), fun l w' hl hdp hJ hg ρ h1 h2 h3 h4 h5 => ?_⟩
          have HJ := hid hJ
          clear hJ
          have f81 : ρ (.tmp 81) = .pointer (some ⟨C, 0, none⟩) := h4 3 81 (by kernel_rfl) (by kernel_rfl)
          have h0 := HJ.out.not (i := 4) (by decide) (by decide) hl
          clear h0 h4 h5 hg
          unfold OpY
          go_simp
          first | exact ⟨rfl, HJ.out.put (i := 4) (by decide) (by decide) (by decide) hl (fun e => absurd e (by decide)) (fun e => absurd e (by decide))⟩ | exact ⟨Or.inr rfl, HJ.out.put (i := 4) (by decide) (by decide) (by decide) hl (fun e => absurd e (by decide)) (fun e => absurd e (by decide))⟩
        · refine ⟨(fun g b h => by cases h), fun l w' hl hdp hJ hg ρ h1 h2 h3 h4 h5 => ?_⟩
          have HJ := hid hJ
          clear hJ
          have f82 : ρ (.tmp 82) = .pointer (some ⟨C, 5, none⟩) := h4 4 82 (by kernel_rfl) (by kernel_rfl)
          have f80 : ρ (.tmp 80) = .int .i64 ((th : Int)) := h4 2 80 (by kernel_rfl) (by kernel_rfl)
          have h0 := HJ.out.not (i := 5) (by decide) (by decide) hl
          clear h0 h4 h5 hg
          unfold OpY
          go_simp
          first | exact ⟨rfl, HJ.out.put (i := 5) (by decide) (by decide) (by decide) hl (fun e => absurd e (by decide)) (fun e => absurd e (by decide))⟩ | exact ⟨Or.inr rfl, HJ.out.put (i := 5) (by decide) (by decide) (by decide) hl (fun e => absurd e (by decide)) (fun e => absurd e (by decide))⟩
        · refine ⟨(fun g b h => by cases h), fun l w' hl hdp hJ hg ρ h1 h2 h3 h4 h5 => ?_⟩
          have HJ := hid hJ
          clear hJ
          have f83 : ρ (.tmp 83) = .pointer (some ⟨C, 5 + th, none⟩) := h4 5 83 (by kernel_rfl) (by kernel_rfl)
          have h0 := HJ.out.not (i := 6) (by decide) (by decide) hl
          have cq := ((HJ.out.turn h0).blk HC.out HBC.out).cell (5 + th) (cdr_begun T V S c HTH.out)
          clear h0 h4 h5 hg
          unfold OpY
          go_simp
          first | exact ⟨rfl, HJ.out.put (i := 6) (by decide) (by decide) (by decide) hl (fun e => absurd e (by decide)) (fun e => absurd e (by decide))⟩ | exact ⟨Or.inr rfl, HJ.out.put (i := 6) (by decide) (by decide) (by decide) hl (fun e => absurd e (by decide)) (fun e => absurd e (by decide))⟩
        · refine ⟨(fun g b h => by cases h), fun l w' hl hdp hJ hg ρ h1 h2 h3 h4 h5 => ?_⟩
          have HJ := hid hJ
          clear hJ
          have f1 : ρ (.tmp 1) = .pointer (some ⟨b, 0, none⟩) := h5 1 (by kernel_rfl)
          have h0 := HJ.out.not (i := 7) (by decide) (by decide) hl
          clear h0 h4 h5 hg
          unfold OpY
          go_simp
          first | exact ⟨rfl, HJ.out.put (i := 7) (by decide) (by decide) (by decide) hl (fun e => absurd e (by decide)) (fun e => absurd e (by decide))⟩ | exact ⟨Or.inr rfl, HJ.out.put (i := 7) (by decide) (by decide) (by decide) hl (fun e => absurd e (by decide)) (fun e => absurd e (by decide))⟩
        · refine ⟨(fun g b h => by cases h), fun l w' hl hdp hJ hg ρ h1 h2 h3 h4 h5 => ?_⟩
          have HJ := hid hJ
          clear hJ
          have f0 : ρ (.tmp 0) = .pointer (some ⟨C, 0, none⟩) := h5 0 (by kernel_rfl)
          have h0 := HJ.out.not (i := 8) (by decide) (by decide) hl
          clear h0 h4 h5 hg
          unfold OpY
          go_simp
          first | exact ⟨rfl, HJ.out.put (i := 8) (by decide) (by decide) (by decide) hl (fun e => absurd e (by decide)) (fun e => absurd e (by decide))⟩ | exact ⟨Or.inr rfl, HJ.out.put (i := 8) (by decide) (by decide) (by decide) hl (fun e => absurd e (by decide)) (fun e => absurd e (by decide))⟩
        · refine ⟨(fun g b h => by cases h), fun l w' hl hdp hJ hg ρ h1 h2 h3 h4 h5 => ?_⟩
          have HJ := hid hJ
          clear hJ
          have f7 : ρ (.tmp 7) = .pointer (some ⟨L, 0, none⟩) := h5 7 (by kernel_rfl)
          have h0 := HJ.out.not (i := 9) (by decide) (by decide) hl
          clear h0 h4 h5 hg
          unfold OpY
          go_simp
          first | exact ⟨rfl, HJ.out.put (i := 9) (by decide) (by decide) (by decide) hl (fun e => absurd e (by decide)) (fun e => absurd e (by decide))⟩ | exact ⟨Or.inr rfl, HJ.out.put (i := 9) (by decide) (by decide) (by decide) hl (fun e => absurd e (by decide)) (fun e => absurd e (by decide))⟩
        · refine ⟨(fun g b h => by cases h), fun l w' hl hdp hJ hg ρ h1 h2 h3 h4 h5 => ?_⟩
          have HJ := hid hJ
          clear hJ
          have f87 : ρ (.tmp 87) = .pointer (some ⟨L, 1, none⟩) := h4 9 87 (by kernel_rfl) (by kernel_rfl)
          have h0 := HJ.out.not (i := 10) (by decide) (by decide) hl
          have c : w'.cell? ⟨L, 1, none⟩ = some (.int .i64 ((th : Int))) := ((HJ.out.turn h0).blk HL.out HBL.out).cell 1 rfl
          clear h0 h4 h5 hg
          unfold OpY
          go_simp
          first | exact ⟨rfl, HJ.out.put (i := 10) (by decide) (by decide) (by decide) hl (fun e => absurd e (by decide)) (fun e => absurd e (by decide))⟩ | exact ⟨Or.inr rfl, HJ.out.put (i := 10) (by decide) (by decide) (by decide) hl (fun e => absurd e (by decide)) (fun e => absurd e (by decide))⟩
        · refine ⟨(fun g b h => by cases h), fun l w' hl hdp hJ hg ρ h1 h2 h3 h4 h5 => ?_⟩
          have HJ := hid hJ
          clear hJ
          have f86 : ρ (.tmp 86) = .pointer (some ⟨C, 0, none⟩) := h4 8 86 (by kernel_rfl) (by kernel_rfl)
          have h0 := HJ.out.not (i := 11) (by decide) (by decide) hl
          clear h0 h4 h5 hg
          unfold OpY
          go_simp
          first | exact ⟨rfl, HJ.out.put (i := 11) (by decide) (by decide) (by decide) hl (fun e => absurd e (by decide)) (fun e => absurd e (by decide))⟩ | exact ⟨Or.inr rfl, HJ.out.put (i := 11) (by decide) (by decide) (by decide) hl (fun e => absurd e (by decide)) (fun e => absurd e (by decide))⟩
        · refine ⟨(fun g b h => by cases h), fun l w' hl hdp hJ hg ρ h1 h2 h3 h4 h5 => ?_⟩
          have HJ := hid hJ
          clear hJ
          have f89 : ρ (.tmp 89) = .pointer (some ⟨C, 0, none⟩) := h4 11 89 (by kernel_rfl) (by kernel_rfl)
          have h0 := HJ.out.not (i := 12) (by decide) (by decide) hl
          clear h0 h4 h5 hg
          unfold OpY
          go_simp
          first | exact ⟨rfl, HJ.out.put (i := 12) (by decide) (by decide) (by decide) hl (fun e => absurd e (by decide)) (fun e => absurd e (by decide))⟩ | exact ⟨Or.inr rfl, HJ.out.put (i := 12) (by decide) (by decide) (by decide) hl (fun e => absurd e (by decide)) (fun e => absurd e (by decide))⟩
        · refine ⟨(fun g b h => by cases h), fun l w' hl hdp hJ hg ρ h1 h2 h3 h4 h5 => ?_⟩
          have HJ := hid hJ
          clear hJ
          have f90 : ρ (.tmp 90) = .pointer (some ⟨C, 5, none⟩) := h4 12 90 (by kernel_rfl) (by kernel_rfl)
          have f88 : ρ (.tmp 88) = .int .i64 ((th : Int)) := h4 10 88 (by kernel_rfl) (by kernel_rfl)
          have h0 := HJ.out.not (i := 13) (by decide) (by decide) hl
          clear h0 h4 h5 hg
          unfold OpY
          go_simp
          first | exact ⟨rfl, HJ.out.put (i := 13) (by decide) (by decide) (by decide) hl (fun e => absurd e (by decide)) (fun e => absurd e (by decide))⟩ | exact ⟨Or.inr rfl, HJ.out.put (i := 13) (by decide) (by decide) (by decide) hl (fun e => absurd e (by decide)) (fun e => absurd e (by decide))⟩
        · refine ⟨(fun g b h => by cases h), fun l w' hl hdp hJ hg ρ h1 h2 h3 h4 h5 => ?_⟩
          have HJ := hid hJ
          clear hJ
          have f91 : ρ (.tmp 91) = .pointer (some ⟨C, 5 + th, none⟩) := h4 13 91 (by kernel_rfl) (by kernel_rfl)
          have h0 := HJ.out.not (i := 14) (by decide) (by decide) hl
          have cq := ((HJ.out.turn h0).blk HC.out HBC.out).cell (5 + th) (cdr_begun T V S c HTH.out)
          clear h0 h4 h5 hg
          unfold OpY
          go_simp
          first | exact ⟨rfl, HJ.out.put (i := 14) (by decide) (by decide) (by decide) hl (fun e => absurd e (by decide)) (fun e => absurd e (by decide))⟩ | exact ⟨Or.inr rfl, HJ.out.put (i := 14) (by decide) (by decide) (by decide) hl (fun e => absurd e (by decide)) (fun e => absurd e (by decide))⟩
        · refine ⟨(fun g b h => by cases h), fun l w' hl hdp hJ hg ρ h1 h2 h3 h4 h5 => ?_⟩
          have HJ := hid hJ
          clear hJ
          have f85 : ρ (.tmp 85) = .pointer (some ⟨b, 0, none⟩) := h4 7 85 (by kernel_rfl) (by kernel_rfl)
          have f92 : ρ (.tmp 92) = .int .i64 (c.begun (th : Int)) := h4 14 92 (by kernel_rfl) (by kernel_rfl)
          clear h4 h5 hg
          unfold OpY
          go_simp
          unfold OpR
          have h0 := HJ.out.pre hl
          subst h0
          refine (HN.out _ HA.out).mono ?_
          rintro e' w'' ⟨rfl, ha', ht'⟩
          first | exact ⟨_, rfl, rfl, HJ.out.call (by decide) (by decide) hl (by decide) ha' ht'⟩ | exact ⟨_, rfl, Or.inr rfl, HJ.out.call (by decide) (by decide) hl (by decide) ha' ht'⟩
        · refine ⟨(fun g b h => by cases h), fun l w' hl hdp hJ hg ρ h1 h2 h3 h4 h5 => ?_⟩
          have HJ := hid hJ
          clear hJ
          have f84 : ρ (.tmp 84) = .int .i64 (c.begun (th : Int)) := h4 6 84 (by kernel_rfl) (by kernel_rfl)
          have f93 : ρ (.tmp 93) = .int .i64 ((b2.1 : Int)) := h4 15 93 (by kernel_rfl) (by kernel_rfl)
          have h0 := HJ.out.not (i := 16) (by decide) (by decide) hl
          clear h0 h4 h5 hg
          unfold OpY
          go_simp
          first | exact ⟨rfl, HJ.out.put (i := 16) (by decide) (by decide) (by decide) hl (fun e => absurd e (by decide)) (fun _ => hdp 15 (by kernel_rfl))⟩ | exact ⟨Or.inr rfl, HJ.out.put (i := 16) (by decide) (by decide) (by decide) hl (fun e => absurd e (by decide)) (fun _ => hdp 15 (by kernel_rfl))⟩
        · refine ⟨(fun g b h => by cases h), fun l w' hl hdp hJ hg ρ h1 h2 h3 h4 h5 => ?_⟩
          have HJ := hid hJ
          clear hJ
          have f7 : ρ (.tmp 7) = .pointer (some ⟨L, 0, none⟩) := h5 7 (by kernel_rfl)
          have h0 := HJ.out.not (i := 17) (by decide) (by decide) hl
          clear h0 h4 h5 hg
          unfold OpY
          go_simp
          first | exact ⟨rfl, HJ.out.put (i := 17) (by decide) (by decide) (by decide) hl (fun _ => hdp 16 (by kernel_rfl)) (fun e => absurd e (by decide))⟩ | exact ⟨Or.inr rfl, HJ.out.put (i := 17) (by decide) (by decide) (by decide) hl (fun _ => hdp 16 (by kernel_rfl)) (fun e => absurd e (by decide))⟩
        · refine ⟨(fun g b h => by cases h), fun l w' hl hdp hJ hg ρ h1 h2 h3 h4 h5 => ?_⟩
          have HJ := hid hJ
          clear hJ
          have f95 : ρ (.tmp 95) = .pointer (some ⟨L, 4, none⟩) := h4 17 95 (by kernel_rfl) (by kernel_rfl)
          have f94 : ρ (.tmp 94) = .int .i64 (c.begun (th : Int) - (b2.1 : Int)) := h4 16 94 (by kernel_rfl) (by kernel_rfl)
          have h15 := hdp 17 (by kernel_rfl)
          have h14 := HJ.out.d1 h15
          have h13 := HJ.out.d2 h14
          have hall : ∀ q, q < 19 → q ≠ 18 → l q = true := all_of (si := 18) h13 h14 (by kernel_rfl) hdp
          have h0 := hl
          have hb := (HJ.out.turn h0).blk HL.out HBL.out
          have cc := hb.cell 4 rfl
          have zz := hb.free 4
          have HALL := hid hall
          clear hall hb h0 h13 h14 h15 h4 h5 hg
          unfold OpY
          go_simp
          exact HJ.out.store HKE.out HL.out HBL.out (by decide) (by decide) (by decide) hl HALL.out rfl
      case hdone =>
        intro w6 hJ
        have HF := hid (hJ.fin rfl)
        have HS6 := hid (HS5.out.turn (e2 := ⟨2, (th : Int), 0, (b1.1 : Int), c.begun (th : Int) - (b2.1 : Int), 0, 0⟩) HF.out.2.1 HF.out.2.2 HF.out.1 HOK2.out)
        clear hJ HF HBL HBC HA HN HS5
        obtain ⟨ev, hev⟩ : ∃ ev : Ev, ev = ⟨2, (th : Int), 0, (b1.1 : Int), c.begun (th : Int) - (b2.1 : Int), 0, 0⟩ := ⟨_, rfl⟩
        obtain ⟨zr, hzr⟩ : ∃ zr : Rdr, zr = b2.2 := ⟨_, rfl⟩
        have HX : Hid (lineR T V S c r0 = (ev, zr)) := hid (by
          rw [HRC.out, hev, hzr, ← HEQ2.out, ← HEQ1.out]
          first | rfl | (unfold lineX; simp))
        have HE : Hid (RSt T V S c s W C b L w6 zr ev) := hid (by rw [hev, hzr]; exact HS6.out)
        have HWR := hid (qwrong_any b s zr.at_ zr.err _ HE.out.rd)
        clear hev hzr HS6
        try clear HKE
        go_wp2_with fail
        refine HWR.out.mono ?_
        rintro e' W7 ⟨rfl, hb7⟩
        have HE7 := hid (HE.out.below hb7)
        have x0 := HE7.out.bz.cell 0 (v := .int .u8 0) rfl
        have x1 := HE7.out.bz.cell 1 (v := .int .i64 0) rfl
        have x2 := HE7.out.bz.cell 2 (v := .int .i64 0) rfl
        have x3 := HE7.out.bz.cell 3 (v := .int .i64 0) rfl
        have x4 := HE7.out.bz.cell 4 (v := .int .i64 0) rfl
        have x5 := HE7.out.bz.cell 5 (v := .int .i64 0) rfl
        have x6 := HE7.out.bz.cell 6 (v := .int .u8 0) rfl
        have y0 := HE7.out.bz.free 0
        have y1 := HE7.out.bz.free 1
        have y2 := HE7.out.bz.free 2
        have y3 := HE7.out.bz.free 3
        have y4 := HE7.out.bz.free 4
        have y5 := HE7.out.bz.free 5
        have y6 := HE7.out.bz.free 6
        clear hb7 HE HWR
        by_cases he : zr.err = 0
        · obtain ⟨ta, -, -, -⟩ := read_anew (T := T) (V := V) (S := S) (c := c) (s := byt s) (at_ := at_) (e := ev) (r' := zr) ⟨HTV.out.1.1, HTV.out.1.2, HTV.out.2.1.1, HTV.out.2.1.2, HTV.out.2.2.1, HTV.out.2.2.2⟩ HOK.out (byt_lt s) (by rw [← HR0.out]; exact HX.out) he
          have g1 : ((zr.err : Int) != 0) = false := by rw [he]; rfl
          obtain ⟨ek, eth, etx, ea, ev', ex, ewhy⟩ := ev
          have hth0 : 0 ≤ eth := by
            have h1 := ta
            unfold tellsC at h1
            rw [Bool.and_eq_true] at h1
            obtain ⟨-, ⟨-, -, -, t1, -⟩, -⟩ := may_sizes' h1.1
            dsimp only at t1
            omega
          obtain ⟨th2, rfl⟩ := Int.eq_ofNat_of_zero_le hth0
          obtain ⟨w1', w2', w3'⟩ := w_ats ta
          have l0 := HE7.out.be.cell 0 (v := .int .u8 ek) rfl
          have l1 := HE7.out.be.cell 1 (v := .int .i64 (th2 : Int)) rfl
          have l2 := HE7.out.be.cell 2 (v := .int .i64 etx) rfl
          have l3 := HE7.out.be.cell 3 (v := .int .i64 ea) rfl
          have l4 := HE7.out.be.cell 4 (v := .int .i64 ev') rfl
          have l5 := HE7.out.be.cell 5 (v := .int .i64 ex) rfl
          have l6 := HE7.out.be.cell 6 (v := .int .u8 ewhy) rfl
          have HKN := hid (qknows_any T V S c ek etx ea ev' ex ewhy th2 ea.toNat C W7 HE7.out.bc w1' w2' w3')
          dsimp only [evA] at HKN
          clear ta hth0 w1' w2' w3' x0 x1 x2 x3 x4 x5 x6 y0 y1 y2 y3 y4 y5 y6
          go_wp2_with fail
          refine HKN.out.mono ?_
          rintro e' W8 ⟨rfl, hC8, hT8⟩
          have hne := HE7.out.ne
          have hE8 := hT8.blk (k := W.heap.size) (by simp only [List.mem_cons, List.not_mem_nil, or_false]; omega) HE7.out.bz
          have hL8 := hT8.blk (k := L) (by simp only [List.mem_cons, List.not_mem_nil, or_false]; omega) HE7.out.be
          have hR8 : RRd W8 b s zr.at_ zr.err := Turn.blk hT8 (by simp only [List.mem_cons, List.not_mem_nil, or_false]; omega) HE7.out.rd
          have l0 := hL8.cell 0 (v := .int .u8 ek) rfl
          have l1 := hL8.cell 1 (v := .int .i64 (th2 : Int)) rfl
          have l2 := hL8.cell 2 (v := .int .i64 etx) rfl
          have l3 := hL8.cell 3 (v := .int .i64 ea) rfl
          have l4 := hL8.cell 4 (v := .int .i64 ev') rfl
          have l5 := hL8.cell 5 (v := .int .i64 ex) rfl
          have l6 := hL8.cell 6 (v := .int .u8 ewhy) rfl
          have x0 := hE8.cell 0 (v := .int .u8 0) rfl
          have y0 := hE8.free 0
          have x1 := hE8.cell 1 (v := .int .i64 0) rfl
          have y1 := hE8.free 1
          have x2 := hE8.cell 2 (v := .int .i64 0) rfl
          have y2 := hE8.free 2
          have x3 := hE8.cell 3 (v := .int .i64 0) rfl
          have y3 := hE8.free 3
          have x4 := hE8.cell 4 (v := .int .i64 0) rfl
          have y4 := hE8.free 4
          have x5 := hE8.cell 5 (v := .int .i64 0) rfl
          have y5 := hE8.free 5
          have x6 := hE8.cell 6 (v := .int .u8 0) rfl
          have y6 := hE8.free 6
          have HE8 := hid hE8
          have HR8 := hid hR8
          have HC8 := hid hC8
          have HT8 := hid hT8
          have HNE := hid hne
          clear hE8 hL8 hR8 hC8 hT8 hne
          go_wp2_with fail
          have hF := dset7 HE8.out (.int .u8 ek) (.int .i64 (th2 : Int)) (.int .i64 etx) (.int .i64 ea) (.int .i64 ev') (.int .i64 ex) (.int .u8 ewhy)
          have q0 := hF.cell 0 (v := .int .u8 ek) rfl
          have q1 := hF.cell 1 (v := .int .i64 (th2 : Int)) rfl
          have q2 := hF.cell 2 (v := .int .i64 etx) rfl
          have q3 := hF.cell 3 (v := .int .i64 ea) rfl
          have q4 := hF.cell 4 (v := .int .i64 ev') rfl
          have q5 := hF.cell 5 (v := .int .i64 ex) rfl
          have q6 := hF.cell 6 (v := .int .u8 ewhy) rfl
          exact bodyPost_ret (v := .tuple #[.agg #[.int .u8 ek, .int .i64 (th2 : Int), .int .i64 etx, .int .i64 ea, .int .i64 ev', .int .i64 ex, .int .u8 ewhy], .int .i64 0]) (by simp [results, Tryd.results23, go_sem, q0, q1, q2, q3, q4, q5, q6]) rfl (by
            rw [HQ.out]
            have hrc : readC T V S c r0 = (⟨ek, (th2 : Int), etx, ea, ev', ex, ewhy⟩, 0, zr, knowsC c ⟨ek, (th2 : Int), etx, ea, ev', ex, ewhy⟩) := by
              unfold readC
              rw [HX.out]
              dsimp only
              rw [if_neg (by rw [he]; decide)]
            unfold RReadP
            rw [hrc]
            have hne := HNE.out
            refine ⟨rfl, dfar7 HC8.out (by omega) _ _ _ _ _ _ _, dfar7 HR8.out (by omega) _ _ _ _ _ _ _, ?_⟩
            exact dturn7 ((HE7.out.tu.mono (by simp)).trans (HT8.out.mono (by simp))) (Nat.le_refl _) _ _ _ _ _ _ _)
        · have g1 : ((zr.err : Int) != 0) = true := by rw [bne_iff_ne]; omega
          go_wp2_with fail
          have hF := dset7 HE7.out.bz (.int .u8 0) (.int .i64 0) (.int .i64 0) (.int .i64 0) (.int .i64 0) (.int .i64 0) (.int .u8 0)
          have q0 := hF.cell 0 (v := .int .u8 0) rfl
          have q1 := hF.cell 1 (v := .int .i64 0) rfl
          have q2 := hF.cell 2 (v := .int .i64 0) rfl
          have q3 := hF.cell 3 (v := .int .i64 0) rfl
          have q4 := hF.cell 4 (v := .int .i64 0) rfl
          have q5 := hF.cell 5 (v := .int .i64 0) rfl
          have q6 := hF.cell 6 (v := .int .u8 0) rfl
          exact bodyPost_ret (v := .tuple #[.agg #[.int .u8 0, .int .i64 0, .int .i64 0, .int .i64 0, .int .i64 0, .int .i64 0, .int .u8 0], .int .i64 (zr.err : Int)]) (by simp [results, Tryd.results23, go_sem, q0, q1, q2, q3, q4, q5, q6]) rfl (by
            rw [HQ.out]
            have hrc : readC T V S c r0 = (⟨0, 0, 0, 0, 0, 0, 0⟩, zr.err, zr, c) := by
              unfold readC
              rw [HX.out]
              dsimp only
              rw [if_pos he]
            unfold RReadP
            rw [hrc]
            have hne := HE7.out.ne
            refine ⟨rfl, dfar7 HE7.out.bc (by omega) _ _ _ _ _ _ _, dfar7 HE7.out.rd (by omega) _ _ _ _ _ _ _, ?_⟩
            exact dturn7 (HE7.out.tu.mono (by simp)) (Nat.le_refl _) _ _ _ _ _ _ _)
    · subst hk
      have HT1 := hid (HS.out.told (most := (V - 1).toNat) HSZ.out (by have := HTV.out; omega))
      rw [tn (show 0 ≤ V - 1 by have := HTV.out; omega)] at HT1
      have hle1 := numR_le y2 ((V - 1).toNat)
      obtain ⟨b1, hb1⟩ : ∃ q, q = numR y2 ((V - 1).toNat) := ⟨_, rfl⟩
      rw [← hb1] at HT1 hle1
      have HEQ1 := hid hb1.symm
      have HLE1 := hid hle1
      clear hb1 hle1
      have k2 := HS.out.bc.cell 1 (v := .int .i64 V) rfl
      have j1 : IntKind.i64.wrap (V - 1) = V - 1 := IntWalk.i64_in _ (by have := HTV.out; omega)
      go_wp2_with fail
      refine HT1.out.mono ?_
      rintro e' w4 ⟨rfl, hS⟩
      have c2 := hS.be.cell 3 (v := .int .i64 0) rfl
      have z2 := hS.be.free 3
      have HS5 := hid (hS.set 3 (.int .i64 (b1.1 : Int)) (e2 := ⟨3, (th : Int), 0, (b1.1 : Int), 0, 0, 0⟩) rfl)
      clear hS HT1 HS
      have HT2 := hid (HS5.out.int HSZ.out)
      obtain ⟨b2, hb2⟩ : ∃ q, q = numR b1.2 maxU := ⟨_, rfl⟩
      rw [← hb2] at HT2
      have HEQ2 := hid hb2.symm
      obtain ⟨zz, hzz⟩ : ∃ z, z = zagZ b2.1 := ⟨_, rfl⟩
      rw [← hzz] at HT2
      have HZZ := hid hzz.symm
      have j3 := wrap_w64 (c.x (b1.1 : Int) + zz)
      have jq0 : (0 : Int) ≤ (b1.1 : Int) := by omega
      have jq1 : (b1.1 : Int) < 32 := by have := HLE1.out; have := HTV.out; omega
      have HQ32 : Hid (b1.1 < 32) := hid (by omega)
      clear hb2 hzz
      go_wp2_with fail
      refine HT2.out.mono ?_
      rintro e' w6 ⟨rfl, hS⟩
      have HS6 := hid hS
      clear hS HT2 HS5 c2 z2 d0 k2 j1
      have e3 := HS6.out.be.cell 3 (v := .int .i64 (b1.1 : Int)) rfl
      have cq := HS6.out.bc.cell (17 + b1.1) (cdr_x T V S c HQ32.out)
      have HS7 := hid ((HS6.out.below (ext_drew (ext_refl _))).set 5 (.int .i64 (w64 (c.x (b1.1 : Int) + zz))) (e2 := ⟨3, (th : Int), 0, (b1.1 : Int), 0, w64 (c.x (b1.1 : Int) + zz), 0⟩) rfl)
      go_wp2_with fail
      go_still_tail 10, (by kernel_rfl)
      change wpList _ _ _ _ _ w6.drew
      have e5 := (HS6.out.below (ext_drew (ext_refl _))).be.cell 5 (v := .int .i64 0) rfl
      have z5 := (HS6.out.below (ext_drew (ext_refl _))).be.free 5
      generalize w6.drew = w7 at *
      clear e3 cq HS6
      obtain ⟨ev, hev⟩ : ∃ ev : Ev, ev = ⟨3, (th : Int), 0, (b1.1 : Int), 0, w64 (c.x (b1.1 : Int) + zz), 0⟩ := ⟨_, rfl⟩
      obtain ⟨zr, hzr⟩ : ∃ zr : Rdr, zr = b2.2 := ⟨_, rfl⟩
      have HX : Hid (lineR T V S c r0 = (ev, zr)) := hid (by
        rw [HRC.out, hev, hzr, ← HZZ.out, ← HEQ2.out, ← HEQ1.out]
        first | rfl | (unfold lineX; simp))
      have HE : Hid (RSt T V S c s W C b L (w7.setCell ⟨L, 5, none⟩ (.int .i64 (w64 (c.x (b1.1 : Int) + zz)))) zr ev) := hid (by rw [hev, hzr]; exact HS7.out)
      have HWR := hid (qwrong_any b s zr.at_ zr.err _ HE.out.rd)
      clear hev hzr HS7
      try clear HKE
      go_wp2_with fail
      refine HWR.out.mono ?_
      rintro e' W7 ⟨rfl, hb7⟩
      have HE7 := hid (HE.out.below hb7)
      have x0 := HE7.out.bz.cell 0 (v := .int .u8 0) rfl
      have x1 := HE7.out.bz.cell 1 (v := .int .i64 0) rfl
      have x2 := HE7.out.bz.cell 2 (v := .int .i64 0) rfl
      have x3 := HE7.out.bz.cell 3 (v := .int .i64 0) rfl
      have x4 := HE7.out.bz.cell 4 (v := .int .i64 0) rfl
      have x5 := HE7.out.bz.cell 5 (v := .int .i64 0) rfl
      have x6 := HE7.out.bz.cell 6 (v := .int .u8 0) rfl
      have y0 := HE7.out.bz.free 0
      have y1 := HE7.out.bz.free 1
      have y2 := HE7.out.bz.free 2
      have y3 := HE7.out.bz.free 3
      have y4 := HE7.out.bz.free 4
      have y5 := HE7.out.bz.free 5
      have y6 := HE7.out.bz.free 6
      clear hb7 HE HWR
      by_cases he : zr.err = 0
      · obtain ⟨ta, -, -, -⟩ := read_anew (T := T) (V := V) (S := S) (c := c) (s := byt s) (at_ := at_) (e := ev) (r' := zr) ⟨HTV.out.1.1, HTV.out.1.2, HTV.out.2.1.1, HTV.out.2.1.2, HTV.out.2.2.1, HTV.out.2.2.2⟩ HOK.out (byt_lt s) (by rw [← HR0.out]; exact HX.out) he
        have g1 : ((zr.err : Int) != 0) = false := by rw [he]; rfl
        obtain ⟨ek, eth, etx, ea, ev', ex, ewhy⟩ := ev
        have hth0 : 0 ≤ eth := by
          have h1 := ta
          unfold tellsC at h1
          rw [Bool.and_eq_true] at h1
          obtain ⟨-, ⟨-, -, -, t1, -⟩, -⟩ := may_sizes' h1.1
          dsimp only at t1
          omega
        obtain ⟨th2, rfl⟩ := Int.eq_ofNat_of_zero_le hth0
        obtain ⟨w1', w2', w3'⟩ := w_ats ta
        have l0 := HE7.out.be.cell 0 (v := .int .u8 ek) rfl
        have l1 := HE7.out.be.cell 1 (v := .int .i64 (th2 : Int)) rfl
        have l2 := HE7.out.be.cell 2 (v := .int .i64 etx) rfl
        have l3 := HE7.out.be.cell 3 (v := .int .i64 ea) rfl
        have l4 := HE7.out.be.cell 4 (v := .int .i64 ev') rfl
        have l5 := HE7.out.be.cell 5 (v := .int .i64 ex) rfl
        have l6 := HE7.out.be.cell 6 (v := .int .u8 ewhy) rfl
        have HKN := hid (qknows_any T V S c ek etx ea ev' ex ewhy th2 ea.toNat C W7 HE7.out.bc w1' w2' w3')
        dsimp only [evA] at HKN
        clear ta hth0 w1' w2' w3' x0 x1 x2 x3 x4 x5 x6 y0 y1 y2 y3 y4 y5 y6
        go_wp2_with fail
        refine HKN.out.mono ?_
        rintro e' W8 ⟨rfl, hC8, hT8⟩
        have hne := HE7.out.ne
        have hE8 := hT8.blk (k := W.heap.size) (by simp only [List.mem_cons, List.not_mem_nil, or_false]; omega) HE7.out.bz
        have hL8 := hT8.blk (k := L) (by simp only [List.mem_cons, List.not_mem_nil, or_false]; omega) HE7.out.be
        have hR8 : RRd W8 b s zr.at_ zr.err := Turn.blk hT8 (by simp only [List.mem_cons, List.not_mem_nil, or_false]; omega) HE7.out.rd
        have l0 := hL8.cell 0 (v := .int .u8 ek) rfl
        have l1 := hL8.cell 1 (v := .int .i64 (th2 : Int)) rfl
        have l2 := hL8.cell 2 (v := .int .i64 etx) rfl
        have l3 := hL8.cell 3 (v := .int .i64 ea) rfl
        have l4 := hL8.cell 4 (v := .int .i64 ev') rfl
        have l5 := hL8.cell 5 (v := .int .i64 ex) rfl
        have l6 := hL8.cell 6 (v := .int .u8 ewhy) rfl
        have x0 := hE8.cell 0 (v := .int .u8 0) rfl
        have y0 := hE8.free 0
        have x1 := hE8.cell 1 (v := .int .i64 0) rfl
        have y1 := hE8.free 1
        have x2 := hE8.cell 2 (v := .int .i64 0) rfl
        have y2 := hE8.free 2
        have x3 := hE8.cell 3 (v := .int .i64 0) rfl
        have y3 := hE8.free 3
        have x4 := hE8.cell 4 (v := .int .i64 0) rfl
        have y4 := hE8.free 4
        have x5 := hE8.cell 5 (v := .int .i64 0) rfl
        have y5 := hE8.free 5
        have x6 := hE8.cell 6 (v := .int .u8 0) rfl
        have y6 := hE8.free 6
        have HE8 := hid hE8
        have HR8 := hid hR8
        have HC8 := hid hC8
        have HT8 := hid hT8
        have HNE := hid hne
        clear hE8 hL8 hR8 hC8 hT8 hne
        go_wp2_with fail
        have hF := dset7 HE8.out (.int .u8 ek) (.int .i64 (th2 : Int)) (.int .i64 etx) (.int .i64 ea) (.int .i64 ev') (.int .i64 ex) (.int .u8 ewhy)
        have q0 := hF.cell 0 (v := .int .u8 ek) rfl
        have q1 := hF.cell 1 (v := .int .i64 (th2 : Int)) rfl
        have q2 := hF.cell 2 (v := .int .i64 etx) rfl
        have q3 := hF.cell 3 (v := .int .i64 ea) rfl
        have q4 := hF.cell 4 (v := .int .i64 ev') rfl
        have q5 := hF.cell 5 (v := .int .i64 ex) rfl
        have q6 := hF.cell 6 (v := .int .u8 ewhy) rfl
        exact bodyPost_ret (v := .tuple #[.agg #[.int .u8 ek, .int .i64 (th2 : Int), .int .i64 etx, .int .i64 ea, .int .i64 ev', .int .i64 ex, .int .u8 ewhy], .int .i64 0]) (by simp [results, Tryd.results23, go_sem, q0, q1, q2, q3, q4, q5, q6]) rfl (by
          rw [HQ.out]
          have hrc : readC T V S c r0 = (⟨ek, (th2 : Int), etx, ea, ev', ex, ewhy⟩, 0, zr, knowsC c ⟨ek, (th2 : Int), etx, ea, ev', ex, ewhy⟩) := by
            unfold readC
            rw [HX.out]
            dsimp only
            rw [if_neg (by rw [he]; decide)]
          unfold RReadP
          rw [hrc]
          have hne := HNE.out
          refine ⟨rfl, dfar7 HC8.out (by omega) _ _ _ _ _ _ _, dfar7 HR8.out (by omega) _ _ _ _ _ _ _, ?_⟩
          exact dturn7 ((HE7.out.tu.mono (by simp)).trans (HT8.out.mono (by simp))) (Nat.le_refl _) _ _ _ _ _ _ _)
      · have g1 : ((zr.err : Int) != 0) = true := by rw [bne_iff_ne]; omega
        go_wp2_with fail
        have hF := dset7 HE7.out.bz (.int .u8 0) (.int .i64 0) (.int .i64 0) (.int .i64 0) (.int .i64 0) (.int .i64 0) (.int .u8 0)
        have q0 := hF.cell 0 (v := .int .u8 0) rfl
        have q1 := hF.cell 1 (v := .int .i64 0) rfl
        have q2 := hF.cell 2 (v := .int .i64 0) rfl
        have q3 := hF.cell 3 (v := .int .i64 0) rfl
        have q4 := hF.cell 4 (v := .int .i64 0) rfl
        have q5 := hF.cell 5 (v := .int .i64 0) rfl
        have q6 := hF.cell 6 (v := .int .u8 0) rfl
        exact bodyPost_ret (v := .tuple #[.agg #[.int .u8 0, .int .i64 0, .int .i64 0, .int .i64 0, .int .i64 0, .int .i64 0, .int .u8 0], .int .i64 (zr.err : Int)]) (by simp [results, Tryd.results23, go_sem, q0, q1, q2, q3, q4, q5, q6]) rfl (by
          rw [HQ.out]
          have hrc : readC T V S c r0 = (⟨0, 0, 0, 0, 0, 0, 0⟩, zr.err, zr, c) := by
            unfold readC
            rw [HX.out]
            dsimp only
            rw [if_pos he]
          unfold RReadP
          rw [hrc]
          have hne := HE7.out.ne
          refine ⟨rfl, dfar7 HE7.out.bc (by omega) _ _ _ _ _ _ _, dfar7 HE7.out.rd (by omega) _ _ _ _ _ _ _, ?_⟩
          exact dturn7 (HE7.out.tu.mono (by simp)) (Nat.le_refl _) _ _ _ _ _ _ _)
    · subst hk
      have HT1 := hid (HS.out.told (most := (S - 1).toNat) HSZ.out (by have := HTV.out; omega))
      rw [tn (show 0 ≤ S - 1 by have := HTV.out; omega)] at HT1
      have hle1 := numR_le y2 ((S - 1).toNat)
      obtain ⟨b1, hb1⟩ : ∃ q, q = numR y2 ((S - 1).toNat) := ⟨_, rfl⟩
      rw [← hb1] at HT1 hle1
      have HEQ1 := hid hb1.symm
      have HLE1 := hid hle1
      clear hb1 hle1
      have k2 := HS.out.bc.cell 2 (v := .int .i64 S) rfl
      have j1 : IntKind.i64.wrap (S - 1) = S - 1 := IntWalk.i64_in _ (by have := HTV.out; omega)
      go_wp2_with fail
      refine HT1.out.mono ?_
      rintro e' w4 ⟨rfl, hS⟩
      have c2 := hS.be.cell 3 (v := .int .i64 0) rfl
      have z2 := hS.be.free 3
      have HS5 := hid (hS.set 3 (.int .i64 (b1.1 : Int)) (e2 := ⟨4, (th : Int), 0, (b1.1 : Int), 0, 0, 0⟩) rfl)
      clear hS HT1 HS
      obtain ⟨ev, hev⟩ : ∃ ev : Ev, ev = ⟨4, (th : Int), 0, (b1.1 : Int), 0, 0, 0⟩ := ⟨_, rfl⟩
      obtain ⟨zr, hzr⟩ : ∃ zr : Rdr, zr = b1.2 := ⟨_, rfl⟩
      have HX : Hid (lineR T V S c r0 = (ev, zr)) := hid (by
        rw [HRC.out, hev, hzr, ← HEQ1.out]
        first | rfl | (unfold lineX; simp))
      have HE : Hid (RSt T V S c s W C b L (w4.setCell ⟨L, 3, none⟩ (.int .i64 (b1.1 : Int))) zr ev) := hid (by rw [hev, hzr]; exact HS5.out)
      have HWR := hid (qwrong_any b s zr.at_ zr.err _ HE.out.rd)
      clear hev hzr HS5
      try clear HKE
      go_wp2_with fail
      refine HWR.out.mono ?_
      rintro e' W7 ⟨rfl, hb7⟩
      have HE7 := hid (HE.out.below hb7)
      have x0 := HE7.out.bz.cell 0 (v := .int .u8 0) rfl
      have x1 := HE7.out.bz.cell 1 (v := .int .i64 0) rfl
      have x2 := HE7.out.bz.cell 2 (v := .int .i64 0) rfl
      have x3 := HE7.out.bz.cell 3 (v := .int .i64 0) rfl
      have x4 := HE7.out.bz.cell 4 (v := .int .i64 0) rfl
      have x5 := HE7.out.bz.cell 5 (v := .int .i64 0) rfl
      have x6 := HE7.out.bz.cell 6 (v := .int .u8 0) rfl
      have y0 := HE7.out.bz.free 0
      have y1 := HE7.out.bz.free 1
      have y2 := HE7.out.bz.free 2
      have y3 := HE7.out.bz.free 3
      have y4 := HE7.out.bz.free 4
      have y5 := HE7.out.bz.free 5
      have y6 := HE7.out.bz.free 6
      clear hb7 HE HWR
      by_cases he : zr.err = 0
      · obtain ⟨ta, -, -, -⟩ := read_anew (T := T) (V := V) (S := S) (c := c) (s := byt s) (at_ := at_) (e := ev) (r' := zr) ⟨HTV.out.1.1, HTV.out.1.2, HTV.out.2.1.1, HTV.out.2.1.2, HTV.out.2.2.1, HTV.out.2.2.2⟩ HOK.out (byt_lt s) (by rw [← HR0.out]; exact HX.out) he
        have g1 : ((zr.err : Int) != 0) = false := by rw [he]; rfl
        obtain ⟨ek, eth, etx, ea, ev', ex, ewhy⟩ := ev
        have hth0 : 0 ≤ eth := by
          have h1 := ta
          unfold tellsC at h1
          rw [Bool.and_eq_true] at h1
          obtain ⟨-, ⟨-, -, -, t1, -⟩, -⟩ := may_sizes' h1.1
          dsimp only at t1
          omega
        obtain ⟨th2, rfl⟩ := Int.eq_ofNat_of_zero_le hth0
        obtain ⟨w1', w2', w3'⟩ := w_ats ta
        have l0 := HE7.out.be.cell 0 (v := .int .u8 ek) rfl
        have l1 := HE7.out.be.cell 1 (v := .int .i64 (th2 : Int)) rfl
        have l2 := HE7.out.be.cell 2 (v := .int .i64 etx) rfl
        have l3 := HE7.out.be.cell 3 (v := .int .i64 ea) rfl
        have l4 := HE7.out.be.cell 4 (v := .int .i64 ev') rfl
        have l5 := HE7.out.be.cell 5 (v := .int .i64 ex) rfl
        have l6 := HE7.out.be.cell 6 (v := .int .u8 ewhy) rfl
        have HKN := hid (qknows_any T V S c ek etx ea ev' ex ewhy th2 ea.toNat C W7 HE7.out.bc w1' w2' w3')
        dsimp only [evA] at HKN
        clear ta hth0 w1' w2' w3' x0 x1 x2 x3 x4 x5 x6 y0 y1 y2 y3 y4 y5 y6
        go_wp2_with fail
        refine HKN.out.mono ?_
        rintro e' W8 ⟨rfl, hC8, hT8⟩
        have hne := HE7.out.ne
        have hE8 := hT8.blk (k := W.heap.size) (by simp only [List.mem_cons, List.not_mem_nil, or_false]; omega) HE7.out.bz
        have hL8 := hT8.blk (k := L) (by simp only [List.mem_cons, List.not_mem_nil, or_false]; omega) HE7.out.be
        have hR8 : RRd W8 b s zr.at_ zr.err := Turn.blk hT8 (by simp only [List.mem_cons, List.not_mem_nil, or_false]; omega) HE7.out.rd
        have l0 := hL8.cell 0 (v := .int .u8 ek) rfl
        have l1 := hL8.cell 1 (v := .int .i64 (th2 : Int)) rfl
        have l2 := hL8.cell 2 (v := .int .i64 etx) rfl
        have l3 := hL8.cell 3 (v := .int .i64 ea) rfl
        have l4 := hL8.cell 4 (v := .int .i64 ev') rfl
        have l5 := hL8.cell 5 (v := .int .i64 ex) rfl
        have l6 := hL8.cell 6 (v := .int .u8 ewhy) rfl
        have x0 := hE8.cell 0 (v := .int .u8 0) rfl
        have y0 := hE8.free 0
        have x1 := hE8.cell 1 (v := .int .i64 0) rfl
        have y1 := hE8.free 1
        have x2 := hE8.cell 2 (v := .int .i64 0) rfl
        have y2 := hE8.free 2
        have x3 := hE8.cell 3 (v := .int .i64 0) rfl
        have y3 := hE8.free 3
        have x4 := hE8.cell 4 (v := .int .i64 0) rfl
        have y4 := hE8.free 4
        have x5 := hE8.cell 5 (v := .int .i64 0) rfl
        have y5 := hE8.free 5
        have x6 := hE8.cell 6 (v := .int .u8 0) rfl
        have y6 := hE8.free 6
        have HE8 := hid hE8
        have HR8 := hid hR8
        have HC8 := hid hC8
        have HT8 := hid hT8
        have HNE := hid hne
        clear hE8 hL8 hR8 hC8 hT8 hne
        go_wp2_with fail
        have hF := dset7 HE8.out (.int .u8 ek) (.int .i64 (th2 : Int)) (.int .i64 etx) (.int .i64 ea) (.int .i64 ev') (.int .i64 ex) (.int .u8 ewhy)
        have q0 := hF.cell 0 (v := .int .u8 ek) rfl
        have q1 := hF.cell 1 (v := .int .i64 (th2 : Int)) rfl
        have q2 := hF.cell 2 (v := .int .i64 etx) rfl
        have q3 := hF.cell 3 (v := .int .i64 ea) rfl
        have q4 := hF.cell 4 (v := .int .i64 ev') rfl
        have q5 := hF.cell 5 (v := .int .i64 ex) rfl
        have q6 := hF.cell 6 (v := .int .u8 ewhy) rfl
        exact bodyPost_ret (v := .tuple #[.agg #[.int .u8 ek, .int .i64 (th2 : Int), .int .i64 etx, .int .i64 ea, .int .i64 ev', .int .i64 ex, .int .u8 ewhy], .int .i64 0]) (by simp [results, Tryd.results23, go_sem, q0, q1, q2, q3, q4, q5, q6]) rfl (by
          rw [HQ.out]
          have hrc : readC T V S c r0 = (⟨ek, (th2 : Int), etx, ea, ev', ex, ewhy⟩, 0, zr, knowsC c ⟨ek, (th2 : Int), etx, ea, ev', ex, ewhy⟩) := by
            unfold readC
            rw [HX.out]
            dsimp only
            rw [if_neg (by rw [he]; decide)]
          unfold RReadP
          rw [hrc]
          have hne := HNE.out
          refine ⟨rfl, dfar7 HC8.out (by omega) _ _ _ _ _ _ _, dfar7 HR8.out (by omega) _ _ _ _ _ _ _, ?_⟩
          exact dturn7 ((HE7.out.tu.mono (by simp)).trans (HT8.out.mono (by simp))) (Nat.le_refl _) _ _ _ _ _ _ _)
      · have g1 : ((zr.err : Int) != 0) = true := by rw [bne_iff_ne]; omega
        go_wp2_with fail
        have hF := dset7 HE7.out.bz (.int .u8 0) (.int .i64 0) (.int .i64 0) (.int .i64 0) (.int .i64 0) (.int .i64 0) (.int .u8 0)
        have q0 := hF.cell 0 (v := .int .u8 0) rfl
        have q1 := hF.cell 1 (v := .int .i64 0) rfl
        have q2 := hF.cell 2 (v := .int .i64 0) rfl
        have q3 := hF.cell 3 (v := .int .i64 0) rfl
        have q4 := hF.cell 4 (v := .int .i64 0) rfl
        have q5 := hF.cell 5 (v := .int .i64 0) rfl
        have q6 := hF.cell 6 (v := .int .u8 0) rfl
        exact bodyPost_ret (v := .tuple #[.agg #[.int .u8 0, .int .i64 0, .int .i64 0, .int .i64 0, .int .i64 0, .int .i64 0, .int .u8 0], .int .i64 (zr.err : Int)]) (by simp [results, Tryd.results23, go_sem, q0, q1, q2, q3, q4, q5, q6]) rfl (by
          rw [HQ.out]
          have hrc : readC T V S c r0 = (⟨0, 0, 0, 0, 0, 0, 0⟩, zr.err, zr, c) := by
            unfold readC
            rw [HX.out]
            dsimp only
            rw [if_pos he]
          unfold RReadP
          rw [hrc]
          have hne := HE7.out.ne
          refine ⟨rfl, dfar7 HE7.out.bc (by omega) _ _ _ _ _ _ _, dfar7 HE7.out.rd (by omega) _ _ _ _ _ _ _, ?_⟩
          exact dturn7 (HE7.out.tu.mono (by simp)) (Nat.le_refl _) _ _ _ _ _ _ _)
    · subst hk
      have HT1 := hid (HS.out.told (most := (1099511627776 - c.clock).toNat) HSZ.out (by have := HOK.out.clock; unfold maxClockN at this; omega))
      rw [tn (show 0 ≤ 1099511627776 - c.clock by have := HOK.out.clock; unfold maxClockN at this; omega)] at HT1
      have hle1 := numR_le y2 ((1099511627776 - c.clock).toNat)
      obtain ⟨b1, hb1⟩ : ∃ q, q = numR y2 ((1099511627776 - c.clock).toNat) := ⟨_, rfl⟩
      rw [← hb1] at HT1 hle1
      have HEQ1 := hid hb1.symm
      have HLE1 := hid hle1
      clear hb1 hle1
      have k4 := HS.out.bc.cell 4 (v := .int .i64 c.clock) rfl
      have k5 := HS.out.rd.cell 1 (v := .int .i64 (y2.at_ : Int)) rfl
      have hon := (numR_ok HS.out.ok (1099511627776 - c.clock).toNat).2
      rw [HEQ1.out] at hon
      have HON := hid hon
      have j1 : IntKind.i64.wrap (1099511627776 - c.clock) = 1099511627776 - c.clock := IntWalk.i64_in _ (by have := HOK.out.clock; unfold maxClockN at this; omega)
      have j3 : IntKind.i64.wrap (c.clock + (b1.1 : Int)) = c.clock + (b1.1 : Int) := IntWalk.i64_in _ (by have := HLE1.out; have := HOK.out.clock; unfold maxClockN at this; omega)
      clear hon
      go_wp2_with fail
      refine HT1.out.mono ?_
      rintro e' w4 ⟨rfl, hS⟩
      have HS4 := hid hS
      clear hS HT1 HS k4 k5 d0
      by_cases hn : b1.1 = 0
      · have g1 : ((b1.1 : Int) == 0) = true := by rw [beq_iff_eq]; omega
        have HNN := hid hn
        have HT2 := hid (HS4.out.fail (place := y2.at_) HON.out)
        clear hn
        go_wp2_with fail
        refine HT2.out.mono ?_
        rintro e' w5 ⟨⟨v', rfl⟩, hS⟩
        have k4 := hS.bc.cell 4 (v := .int .i64 c.clock) rfl
        have c2 := hS.be.cell 4 (v := .int .i64 0) rfl
        have z2 := hS.be.free 4
        have HS5 := hid (hS.set 4 (.int .i64 (c.clock + (b1.1 : Int))) (e2 := ⟨5, (th : Int), 0, 0, c.clock + (b1.1 : Int), 0, 0⟩) rfl)
        clear hS HT2 HS4
        obtain ⟨ev, hev⟩ : ∃ ev : Ev, ev = ⟨5, (th : Int), 0, 0, c.clock + (b1.1 : Int), 0, 0⟩ := ⟨_, rfl⟩
        obtain ⟨zr, hzr⟩ : ∃ zr : Rdr, zr = failR b1.2 y2.at_ := ⟨_, rfl⟩
        have HX : Hid (lineR T V S c r0 = (ev, zr)) := hid (by
          rw [HRC.out, hev, hzr, ← HEQ1.out]
          exact (lineX5 ..).trans (by unfold maxClockN; rw [if_pos ((congrArg Prod.fst HEQ1.out).trans HNN.out)]))
        have HE : Hid (RSt T V S c s W C b L (w5.setCell ⟨L, 4, none⟩ (.int .i64 (c.clock + (b1.1 : Int)))) zr ev) := hid (by rw [hev, hzr]; exact HS5.out)
        have HWR := hid (qwrong_any b s zr.at_ zr.err _ HE.out.rd)
        clear hev hzr HS5
        try clear HKE
        go_wp2_with fail
        refine HWR.out.mono ?_
        rintro e' W7 ⟨rfl, hb7⟩
        have HE7 := hid (HE.out.below hb7)
        have x0 := HE7.out.bz.cell 0 (v := .int .u8 0) rfl
        have x1 := HE7.out.bz.cell 1 (v := .int .i64 0) rfl
        have x2 := HE7.out.bz.cell 2 (v := .int .i64 0) rfl
        have x3 := HE7.out.bz.cell 3 (v := .int .i64 0) rfl
        have x4 := HE7.out.bz.cell 4 (v := .int .i64 0) rfl
        have x5 := HE7.out.bz.cell 5 (v := .int .i64 0) rfl
        have x6 := HE7.out.bz.cell 6 (v := .int .u8 0) rfl
        have y0 := HE7.out.bz.free 0
        have y1 := HE7.out.bz.free 1
        have y2 := HE7.out.bz.free 2
        have y3 := HE7.out.bz.free 3
        have y4 := HE7.out.bz.free 4
        have y5 := HE7.out.bz.free 5
        have y6 := HE7.out.bz.free 6
        clear hb7 HE HWR
        by_cases he : zr.err = 0
        · obtain ⟨ta, -, -, -⟩ := read_anew (T := T) (V := V) (S := S) (c := c) (s := byt s) (at_ := at_) (e := ev) (r' := zr) ⟨HTV.out.1.1, HTV.out.1.2, HTV.out.2.1.1, HTV.out.2.1.2, HTV.out.2.2.1, HTV.out.2.2.2⟩ HOK.out (byt_lt s) (by rw [← HR0.out]; exact HX.out) he
          have g1 : ((zr.err : Int) != 0) = false := by rw [he]; rfl
          obtain ⟨ek, eth, etx, ea, ev', ex, ewhy⟩ := ev
          have hth0 : 0 ≤ eth := by
            have h1 := ta
            unfold tellsC at h1
            rw [Bool.and_eq_true] at h1
            obtain ⟨-, ⟨-, -, -, t1, -⟩, -⟩ := may_sizes' h1.1
            dsimp only at t1
            omega
          obtain ⟨th2, rfl⟩ := Int.eq_ofNat_of_zero_le hth0
          obtain ⟨w1', w2', w3'⟩ := w_ats ta
          have l0 := HE7.out.be.cell 0 (v := .int .u8 ek) rfl
          have l1 := HE7.out.be.cell 1 (v := .int .i64 (th2 : Int)) rfl
          have l2 := HE7.out.be.cell 2 (v := .int .i64 etx) rfl
          have l3 := HE7.out.be.cell 3 (v := .int .i64 ea) rfl
          have l4 := HE7.out.be.cell 4 (v := .int .i64 ev') rfl
          have l5 := HE7.out.be.cell 5 (v := .int .i64 ex) rfl
          have l6 := HE7.out.be.cell 6 (v := .int .u8 ewhy) rfl
          have HKN := hid (qknows_any T V S c ek etx ea ev' ex ewhy th2 ea.toNat C W7 HE7.out.bc w1' w2' w3')
          dsimp only [evA] at HKN
          clear ta hth0 w1' w2' w3' x0 x1 x2 x3 x4 x5 x6 y0 y1 y2 y3 y4 y5 y6
          go_wp2_with fail
          refine HKN.out.mono ?_
          rintro e' W8 ⟨rfl, hC8, hT8⟩
          have hne := HE7.out.ne
          have hE8 := hT8.blk (k := W.heap.size) (by simp only [List.mem_cons, List.not_mem_nil, or_false]; omega) HE7.out.bz
          have hL8 := hT8.blk (k := L) (by simp only [List.mem_cons, List.not_mem_nil, or_false]; omega) HE7.out.be
          have hR8 : RRd W8 b s zr.at_ zr.err := Turn.blk hT8 (by simp only [List.mem_cons, List.not_mem_nil, or_false]; omega) HE7.out.rd
          have l0 := hL8.cell 0 (v := .int .u8 ek) rfl
          have l1 := hL8.cell 1 (v := .int .i64 (th2 : Int)) rfl
          have l2 := hL8.cell 2 (v := .int .i64 etx) rfl
          have l3 := hL8.cell 3 (v := .int .i64 ea) rfl
          have l4 := hL8.cell 4 (v := .int .i64 ev') rfl
          have l5 := hL8.cell 5 (v := .int .i64 ex) rfl
          have l6 := hL8.cell 6 (v := .int .u8 ewhy) rfl
          have x0 := hE8.cell 0 (v := .int .u8 0) rfl
          have y0 := hE8.free 0
          have x1 := hE8.cell 1 (v := .int .i64 0) rfl
          have y1 := hE8.free 1
          have x2 := hE8.cell 2 (v := .int .i64 0) rfl
          have y2 := hE8.free 2
          have x3 := hE8.cell 3 (v := .int .i64 0) rfl
          have y3 := hE8.free 3
          have x4 := hE8.cell 4 (v := .int .i64 0) rfl
          have y4 := hE8.free 4
          have x5 := hE8.cell 5 (v := .int .i64 0) rfl
          have y5 := hE8.free 5
          have x6 := hE8.cell 6 (v := .int .u8 0) rfl
          have y6 := hE8.free 6
          have HE8 := hid hE8
          have HR8 := hid hR8
          have HC8 := hid hC8
          have HT8 := hid hT8
          have HNE := hid hne
          clear hE8 hL8 hR8 hC8 hT8 hne
          go_wp2_with fail
          have hF := dset7 HE8.out (.int .u8 ek) (.int .i64 (th2 : Int)) (.int .i64 etx) (.int .i64 ea) (.int .i64 ev') (.int .i64 ex) (.int .u8 ewhy)
          have q0 := hF.cell 0 (v := .int .u8 ek) rfl
          have q1 := hF.cell 1 (v := .int .i64 (th2 : Int)) rfl
          have q2 := hF.cell 2 (v := .int .i64 etx) rfl
          have q3 := hF.cell 3 (v := .int .i64 ea) rfl
          have q4 := hF.cell 4 (v := .int .i64 ev') rfl
          have q5 := hF.cell 5 (v := .int .i64 ex) rfl
          have q6 := hF.cell 6 (v := .int .u8 ewhy) rfl
          exact bodyPost_ret (v := .tuple #[.agg #[.int .u8 ek, .int .i64 (th2 : Int), .int .i64 etx, .int .i64 ea, .int .i64 ev', .int .i64 ex, .int .u8 ewhy], .int .i64 0]) (by simp [results, Tryd.results23, go_sem, q0, q1, q2, q3, q4, q5, q6]) rfl (by
            rw [HQ.out]
            have hrc : readC T V S c r0 = (⟨ek, (th2 : Int), etx, ea, ev', ex, ewhy⟩, 0, zr, knowsC c ⟨ek, (th2 : Int), etx, ea, ev', ex, ewhy⟩) := by
              unfold readC
              rw [HX.out]
              dsimp only
              rw [if_neg (by rw [he]; decide)]
            unfold RReadP
            rw [hrc]
            have hne := HNE.out
            refine ⟨rfl, dfar7 HC8.out (by omega) _ _ _ _ _ _ _, dfar7 HR8.out (by omega) _ _ _ _ _ _ _, ?_⟩
            exact dturn7 ((HE7.out.tu.mono (by simp)).trans (HT8.out.mono (by simp))) (Nat.le_refl _) _ _ _ _ _ _ _)
        · have g1 : ((zr.err : Int) != 0) = true := by rw [bne_iff_ne]; omega
          go_wp2_with fail
          have hF := dset7 HE7.out.bz (.int .u8 0) (.int .i64 0) (.int .i64 0) (.int .i64 0) (.int .i64 0) (.int .i64 0) (.int .u8 0)
          have q0 := hF.cell 0 (v := .int .u8 0) rfl
          have q1 := hF.cell 1 (v := .int .i64 0) rfl
          have q2 := hF.cell 2 (v := .int .i64 0) rfl
          have q3 := hF.cell 3 (v := .int .i64 0) rfl
          have q4 := hF.cell 4 (v := .int .i64 0) rfl
          have q5 := hF.cell 5 (v := .int .i64 0) rfl
          have q6 := hF.cell 6 (v := .int .u8 0) rfl
          exact bodyPost_ret (v := .tuple #[.agg #[.int .u8 0, .int .i64 0, .int .i64 0, .int .i64 0, .int .i64 0, .int .i64 0, .int .u8 0], .int .i64 (zr.err : Int)]) (by simp [results, Tryd.results23, go_sem, q0, q1, q2, q3, q4, q5, q6]) rfl (by
            rw [HQ.out]
            have hrc : readC T V S c r0 = (⟨0, 0, 0, 0, 0, 0, 0⟩, zr.err, zr, c) := by
              unfold readC
              rw [HX.out]
              dsimp only
              rw [if_pos he]
            unfold RReadP
            rw [hrc]
            have hne := HE7.out.ne
            refine ⟨rfl, dfar7 HE7.out.bc (by omega) _ _ _ _ _ _ _, dfar7 HE7.out.rd (by omega) _ _ _ _ _ _ _, ?_⟩
            exact dturn7 (HE7.out.tu.mono (by simp)) (Nat.le_refl _) _ _ _ _ _ _ _)
      · have g1 : ((b1.1 : Int) == 0) = false := by rw [beq_eq_false_iff_ne]; omega
        have g2 : decide (b1.1 = 0) = false := by simp [hn]
        have HNN := hid hn
        have k4 := HS4.out.bc.cell 4 (v := .int .i64 c.clock) rfl
        have c2 := HS4.out.be.cell 4 (v := .int .i64 0) rfl
        have z2 := HS4.out.be.free 4
        have HS5 := hid (HS4.out.set 4 (.int .i64 (c.clock + (b1.1 : Int))) (e2 := ⟨5, (th : Int), 0, 0, c.clock + (b1.1 : Int), 0, 0⟩) rfl)
        clear hn HS4
        obtain ⟨ev, hev⟩ : ∃ ev : Ev, ev = ⟨5, (th : Int), 0, 0, c.clock + (b1.1 : Int), 0, 0⟩ := ⟨_, rfl⟩
        obtain ⟨zr, hzr⟩ : ∃ zr : Rdr, zr = b1.2 := ⟨_, rfl⟩
        have HX : Hid (lineR T V S c r0 = (ev, zr)) := hid (by
          rw [HRC.out, hev, hzr, ← HEQ1.out]
          exact (lineX5 ..).trans (by unfold maxClockN; rw [if_neg (fun h => HNN.out ((congrArg Prod.fst HEQ1.out).symm.trans h))]))
        have HE : Hid (RSt T V S c s W C b L (w4.setCell ⟨L, 4, none⟩ (.int .i64 (c.clock + (b1.1 : Int)))) zr ev) := hid (by rw [hev, hzr]; exact HS5.out)
        have HWR := hid (qwrong_any b s zr.at_ zr.err _ HE.out.rd)
        clear hev hzr HS5
        try clear HKE
        go_wp2_with fail
        refine HWR.out.mono ?_
        rintro e' W7 ⟨rfl, hb7⟩
        have HE7 := hid (HE.out.below hb7)
        have x0 := HE7.out.bz.cell 0 (v := .int .u8 0) rfl
        have x1 := HE7.out.bz.cell 1 (v := .int .i64 0) rfl
        have x2 := HE7.out.bz.cell 2 (v := .int .i64 0) rfl
        have x3 := HE7.out.bz.cell 3 (v := .int .i64 0) rfl
        have x4 := HE7.out.bz.cell 4 (v := .int .i64 0) rfl
        have x5 := HE7.out.bz.cell 5 (v := .int .i64 0) rfl
        have x6 := HE7.out.bz.cell 6 (v := .int .u8 0) rfl
        have y0 := HE7.out.bz.free 0
        have y1 := HE7.out.bz.free 1
        have y2 := HE7.out.bz.free 2
        have y3 := HE7.out.bz.free 3
        have y4 := HE7.out.bz.free 4
        have y5 := HE7.out.bz.free 5
        have y6 := HE7.out.bz.free 6
        clear hb7 HE HWR
        by_cases he : zr.err = 0
        · obtain ⟨ta, -, -, -⟩ := read_anew (T := T) (V := V) (S := S) (c := c) (s := byt s) (at_ := at_) (e := ev) (r' := zr) ⟨HTV.out.1.1, HTV.out.1.2, HTV.out.2.1.1, HTV.out.2.1.2, HTV.out.2.2.1, HTV.out.2.2.2⟩ HOK.out (byt_lt s) (by rw [← HR0.out]; exact HX.out) he
          have g1 : ((zr.err : Int) != 0) = false := by rw [he]; rfl
          obtain ⟨ek, eth, etx, ea, ev', ex, ewhy⟩ := ev
          have hth0 : 0 ≤ eth := by
            have h1 := ta
            unfold tellsC at h1
            rw [Bool.and_eq_true] at h1
            obtain ⟨-, ⟨-, -, -, t1, -⟩, -⟩ := may_sizes' h1.1
            dsimp only at t1
            omega
          obtain ⟨th2, rfl⟩ := Int.eq_ofNat_of_zero_le hth0
          obtain ⟨w1', w2', w3'⟩ := w_ats ta
          have l0 := HE7.out.be.cell 0 (v := .int .u8 ek) rfl
          have l1 := HE7.out.be.cell 1 (v := .int .i64 (th2 : Int)) rfl
          have l2 := HE7.out.be.cell 2 (v := .int .i64 etx) rfl
          have l3 := HE7.out.be.cell 3 (v := .int .i64 ea) rfl
          have l4 := HE7.out.be.cell 4 (v := .int .i64 ev') rfl
          have l5 := HE7.out.be.cell 5 (v := .int .i64 ex) rfl
          have l6 := HE7.out.be.cell 6 (v := .int .u8 ewhy) rfl
          have HKN := hid (qknows_any T V S c ek etx ea ev' ex ewhy th2 ea.toNat C W7 HE7.out.bc w1' w2' w3')
          dsimp only [evA] at HKN
          clear ta hth0 w1' w2' w3' x0 x1 x2 x3 x4 x5 x6 y0 y1 y2 y3 y4 y5 y6
          go_wp2_with fail
          refine HKN.out.mono ?_
          rintro e' W8 ⟨rfl, hC8, hT8⟩
          have hne := HE7.out.ne
          have hE8 := hT8.blk (k := W.heap.size) (by simp only [List.mem_cons, List.not_mem_nil, or_false]; omega) HE7.out.bz
          have hL8 := hT8.blk (k := L) (by simp only [List.mem_cons, List.not_mem_nil, or_false]; omega) HE7.out.be
          have hR8 : RRd W8 b s zr.at_ zr.err := Turn.blk hT8 (by simp only [List.mem_cons, List.not_mem_nil, or_false]; omega) HE7.out.rd
          have l0 := hL8.cell 0 (v := .int .u8 ek) rfl
          have l1 := hL8.cell 1 (v := .int .i64 (th2 : Int)) rfl
          have l2 := hL8.cell 2 (v := .int .i64 etx) rfl
          have l3 := hL8.cell 3 (v := .int .i64 ea) rfl
          have l4 := hL8.cell 4 (v := .int .i64 ev') rfl
          have l5 := hL8.cell 5 (v := .int .i64 ex) rfl
          have l6 := hL8.cell 6 (v := .int .u8 ewhy) rfl
          have x0 := hE8.cell 0 (v := .int .u8 0) rfl
          have y0 := hE8.free 0
          have x1 := hE8.cell 1 (v := .int .i64 0) rfl
          have y1 := hE8.free 1
          have x2 := hE8.cell 2 (v := .int .i64 0) rfl
          have y2 := hE8.free 2
          have x3 := hE8.cell 3 (v := .int .i64 0) rfl
          have y3 := hE8.free 3
          have x4 := hE8.cell 4 (v := .int .i64 0) rfl
          have y4 := hE8.free 4
          have x5 := hE8.cell 5 (v := .int .i64 0) rfl
          have y5 := hE8.free 5
          have x6 := hE8.cell 6 (v := .int .u8 0) rfl
          have y6 := hE8.free 6
          have HE8 := hid hE8
          have HR8 := hid hR8
          have HC8 := hid hC8
          have HT8 := hid hT8
          have HNE := hid hne
          clear hE8 hL8 hR8 hC8 hT8 hne
          go_wp2_with fail
          have hF := dset7 HE8.out (.int .u8 ek) (.int .i64 (th2 : Int)) (.int .i64 etx) (.int .i64 ea) (.int .i64 ev') (.int .i64 ex) (.int .u8 ewhy)
          have q0 := hF.cell 0 (v := .int .u8 ek) rfl
          have q1 := hF.cell 1 (v := .int .i64 (th2 : Int)) rfl
          have q2 := hF.cell 2 (v := .int .i64 etx) rfl
          have q3 := hF.cell 3 (v := .int .i64 ea) rfl
          have q4 := hF.cell 4 (v := .int .i64 ev') rfl
          have q5 := hF.cell 5 (v := .int .i64 ex) rfl
          have q6 := hF.cell 6 (v := .int .u8 ewhy) rfl
          exact bodyPost_ret (v := .tuple #[.agg #[.int .u8 ek, .int .i64 (th2 : Int), .int .i64 etx, .int .i64 ea, .int .i64 ev', .int .i64 ex, .int .u8 ewhy], .int .i64 0]) (by simp [results, Tryd.results23, go_sem, q0, q1, q2, q3, q4, q5, q6]) rfl (by
            rw [HQ.out]
            have hrc : readC T V S c r0 = (⟨ek, (th2 : Int), etx, ea, ev', ex, ewhy⟩, 0, zr, knowsC c ⟨ek, (th2 : Int), etx, ea, ev', ex, ewhy⟩) := by
              unfold readC
              rw [HX.out]
              dsimp only
              rw [if_neg (by rw [he]; decide)]
            unfold RReadP
            rw [hrc]
            have hne := HNE.out
            refine ⟨rfl, dfar7 HC8.out (by omega) _ _ _ _ _ _ _, dfar7 HR8.out (by omega) _ _ _ _ _ _ _, ?_⟩
            exact dturn7 ((HE7.out.tu.mono (by simp)).trans (HT8.out.mono (by simp))) (Nat.le_refl _) _ _ _ _ _ _ _)
        · have g1 : ((zr.err : Int) != 0) = true := by rw [bne_iff_ne]; omega
          go_wp2_with fail
          have hF := dset7 HE7.out.bz (.int .u8 0) (.int .i64 0) (.int .i64 0) (.int .i64 0) (.int .i64 0) (.int .i64 0) (.int .u8 0)
          have q0 := hF.cell 0 (v := .int .u8 0) rfl
          have q1 := hF.cell 1 (v := .int .i64 0) rfl
          have q2 := hF.cell 2 (v := .int .i64 0) rfl
          have q3 := hF.cell 3 (v := .int .i64 0) rfl
          have q4 := hF.cell 4 (v := .int .i64 0) rfl
          have q5 := hF.cell 5 (v := .int .i64 0) rfl
          have q6 := hF.cell 6 (v := .int .u8 0) rfl
          exact bodyPost_ret (v := .tuple #[.agg #[.int .u8 0, .int .i64 0, .int .i64 0, .int .i64 0, .int .i64 0, .int .i64 0, .int .u8 0], .int .i64 (zr.err : Int)]) (by simp [results, Tryd.results23, go_sem, q0, q1, q2, q3, q4, q5, q6]) rfl (by
            rw [HQ.out]
            have hrc : readC T V S c r0 = (⟨0, 0, 0, 0, 0, 0, 0⟩, zr.err, zr, c) := by
              unfold readC
              rw [HX.out]
              dsimp only
              rw [if_pos he]
            unfold RReadP
            rw [hrc]
            have hne := HE7.out.ne
            refine ⟨rfl, dfar7 HE7.out.bc (by omega) _ _ _ _ _ _ _, dfar7 HE7.out.rd (by omega) _ _ _ _ _ _ _, ?_⟩
            exact dturn7 (HE7.out.tu.mono (by simp)) (Nat.le_refl _) _ _ _ _ _ _ _)
    · subst hk
      have HT1 := hid (HS.out.told (most := (S - 1).toNat) HSZ.out (by have := HTV.out; omega))
      rw [tn (show 0 ≤ S - 1 by have := HTV.out; omega)] at HT1
      have hle1 := numR_le y2 ((S - 1).toNat)
      obtain ⟨b1, hb1⟩ : ∃ q, q = numR y2 ((S - 1).toNat) := ⟨_, rfl⟩
      rw [← hb1] at HT1 hle1
      have HEQ1 := hid hb1.symm
      have HLE1 := hid hle1
      clear hb1 hle1
      have k2 := HS.out.bc.cell 2 (v := .int .i64 S) rfl
      have j1 : IntKind.i64.wrap (S - 1) = S - 1 := IntWalk.i64_in _ (by have := HTV.out; omega)
      go_wp2_with fail
      refine HT1.out.mono ?_
      rintro e' w4 ⟨rfl, hS⟩
      have c2 := hS.be.cell 3 (v := .int .i64 0) rfl
      have z2 := hS.be.free 3
      have HS5 := hid (hS.set 3 (.int .i64 (b1.1 : Int)) (e2 := ⟨6, (th : Int), 0, (b1.1 : Int), 0, 0, 0⟩) rfl)
      clear hS HT1 HS
      obtain ⟨ev, hev⟩ : ∃ ev : Ev, ev = ⟨6, (th : Int), 0, (b1.1 : Int), 0, 0, 0⟩ := ⟨_, rfl⟩
      obtain ⟨zr, hzr⟩ : ∃ zr : Rdr, zr = b1.2 := ⟨_, rfl⟩
      have HX : Hid (lineR T V S c r0 = (ev, zr)) := hid (by
        rw [HRC.out, hev, hzr, ← HEQ1.out]
        first | rfl | (unfold lineX; simp))
      have HE : Hid (RSt T V S c s W C b L (w4.setCell ⟨L, 3, none⟩ (.int .i64 (b1.1 : Int))) zr ev) := hid (by rw [hev, hzr]; exact HS5.out)
      have HWR := hid (qwrong_any b s zr.at_ zr.err _ HE.out.rd)
      clear hev hzr HS5
      try clear HKE
      go_wp2_with fail
      refine HWR.out.mono ?_
      rintro e' W7 ⟨rfl, hb7⟩
      have HE7 := hid (HE.out.below hb7)
      have x0 := HE7.out.bz.cell 0 (v := .int .u8 0) rfl
      have x1 := HE7.out.bz.cell 1 (v := .int .i64 0) rfl
      have x2 := HE7.out.bz.cell 2 (v := .int .i64 0) rfl
      have x3 := HE7.out.bz.cell 3 (v := .int .i64 0) rfl
      have x4 := HE7.out.bz.cell 4 (v := .int .i64 0) rfl
      have x5 := HE7.out.bz.cell 5 (v := .int .i64 0) rfl
      have x6 := HE7.out.bz.cell 6 (v := .int .u8 0) rfl
      have y0 := HE7.out.bz.free 0
      have y1 := HE7.out.bz.free 1
      have y2 := HE7.out.bz.free 2
      have y3 := HE7.out.bz.free 3
      have y4 := HE7.out.bz.free 4
      have y5 := HE7.out.bz.free 5
      have y6 := HE7.out.bz.free 6
      clear hb7 HE HWR
      by_cases he : zr.err = 0
      · obtain ⟨ta, -, -, -⟩ := read_anew (T := T) (V := V) (S := S) (c := c) (s := byt s) (at_ := at_) (e := ev) (r' := zr) ⟨HTV.out.1.1, HTV.out.1.2, HTV.out.2.1.1, HTV.out.2.1.2, HTV.out.2.2.1, HTV.out.2.2.2⟩ HOK.out (byt_lt s) (by rw [← HR0.out]; exact HX.out) he
        have g1 : ((zr.err : Int) != 0) = false := by rw [he]; rfl
        obtain ⟨ek, eth, etx, ea, ev', ex, ewhy⟩ := ev
        have hth0 : 0 ≤ eth := by
          have h1 := ta
          unfold tellsC at h1
          rw [Bool.and_eq_true] at h1
          obtain ⟨-, ⟨-, -, -, t1, -⟩, -⟩ := may_sizes' h1.1
          dsimp only at t1
          omega
        obtain ⟨th2, rfl⟩ := Int.eq_ofNat_of_zero_le hth0
        obtain ⟨w1', w2', w3'⟩ := w_ats ta
        have l0 := HE7.out.be.cell 0 (v := .int .u8 ek) rfl
        have l1 := HE7.out.be.cell 1 (v := .int .i64 (th2 : Int)) rfl
        have l2 := HE7.out.be.cell 2 (v := .int .i64 etx) rfl
        have l3 := HE7.out.be.cell 3 (v := .int .i64 ea) rfl
        have l4 := HE7.out.be.cell 4 (v := .int .i64 ev') rfl
        have l5 := HE7.out.be.cell 5 (v := .int .i64 ex) rfl
        have l6 := HE7.out.be.cell 6 (v := .int .u8 ewhy) rfl
        have HKN := hid (qknows_any T V S c ek etx ea ev' ex ewhy th2 ea.toNat C W7 HE7.out.bc w1' w2' w3')
        dsimp only [evA] at HKN
        clear ta hth0 w1' w2' w3' x0 x1 x2 x3 x4 x5 x6 y0 y1 y2 y3 y4 y5 y6
        go_wp2_with fail
        refine HKN.out.mono ?_
        rintro e' W8 ⟨rfl, hC8, hT8⟩
        have hne := HE7.out.ne
        have hE8 := hT8.blk (k := W.heap.size) (by simp only [List.mem_cons, List.not_mem_nil, or_false]; omega) HE7.out.bz
        have hL8 := hT8.blk (k := L) (by simp only [List.mem_cons, List.not_mem_nil, or_false]; omega) HE7.out.be
        have hR8 : RRd W8 b s zr.at_ zr.err := Turn.blk hT8 (by simp only [List.mem_cons, List.not_mem_nil, or_false]; omega) HE7.out.rd
        have l0 := hL8.cell 0 (v := .int .u8 ek) rfl
        have l1 := hL8.cell 1 (v := .int .i64 (th2 : Int)) rfl
        have l2 := hL8.cell 2 (v := .int .i64 etx) rfl
        have l3 := hL8.cell 3 (v := .int .i64 ea) rfl
        have l4 := hL8.cell 4 (v := .int .i64 ev') rfl
        have l5 := hL8.cell 5 (v := .int .i64 ex) rfl
        have l6 := hL8.cell 6 (v := .int .u8 ewhy) rfl
        have x0 := hE8.cell 0 (v := .int .u8 0) rfl
        have y0 := hE8.free 0
        have x1 := hE8.cell 1 (v := .int .i64 0) rfl
        have y1 := hE8.free 1
        have x2 := hE8.cell 2 (v := .int .i64 0) rfl
        have y2 := hE8.free 2
        have x3 := hE8.cell 3 (v := .int .i64 0) rfl
        have y3 := hE8.free 3
        have x4 := hE8.cell 4 (v := .int .i64 0) rfl
        have y4 := hE8.free 4
        have x5 := hE8.cell 5 (v := .int .i64 0) rfl
        have y5 := hE8.free 5
        have x6 := hE8.cell 6 (v := .int .u8 0) rfl
        have y6 := hE8.free 6
        have HE8 := hid hE8
        have HR8 := hid hR8
        have HC8 := hid hC8
        have HT8 := hid hT8
        have HNE := hid hne
        clear hE8 hL8 hR8 hC8 hT8 hne
        go_wp2_with fail
        have hF := dset7 HE8.out (.int .u8 ek) (.int .i64 (th2 : Int)) (.int .i64 etx) (.int .i64 ea) (.int .i64 ev') (.int .i64 ex) (.int .u8 ewhy)
        have q0 := hF.cell 0 (v := .int .u8 ek) rfl
        have q1 := hF.cell 1 (v := .int .i64 (th2 : Int)) rfl
        have q2 := hF.cell 2 (v := .int .i64 etx) rfl
        have q3 := hF.cell 3 (v := .int .i64 ea) rfl
        have q4 := hF.cell 4 (v := .int .i64 ev') rfl
        have q5 := hF.cell 5 (v := .int .i64 ex) rfl
        have q6 := hF.cell 6 (v := .int .u8 ewhy) rfl
        exact bodyPost_ret (v := .tuple #[.agg #[.int .u8 ek, .int .i64 (th2 : Int), .int .i64 etx, .int .i64 ea, .int .i64 ev', .int .i64 ex, .int .u8 ewhy], .int .i64 0]) (by simp [results, Tryd.results23, go_sem, q0, q1, q2, q3, q4, q5, q6]) rfl (by
          rw [HQ.out]
          have hrc : readC T V S c r0 = (⟨ek, (th2 : Int), etx, ea, ev', ex, ewhy⟩, 0, zr, knowsC c ⟨ek, (th2 : Int), etx, ea, ev', ex, ewhy⟩) := by
            unfold readC
            rw [HX.out]
            dsimp only
            rw [if_neg (by rw [he]; decide)]
          unfold RReadP
          rw [hrc]
          have hne := HNE.out
          refine ⟨rfl, dfar7 HC8.out (by omega) _ _ _ _ _ _ _, dfar7 HR8.out (by omega) _ _ _ _ _ _ _, ?_⟩
          exact dturn7 ((HE7.out.tu.mono (by simp)).trans (HT8.out.mono (by simp))) (Nat.le_refl _) _ _ _ _ _ _ _)
      · have g1 : ((zr.err : Int) != 0) = true := by rw [bne_iff_ne]; omega
        go_wp2_with fail
        have hF := dset7 HE7.out.bz (.int .u8 0) (.int .i64 0) (.int .i64 0) (.int .i64 0) (.int .i64 0) (.int .i64 0) (.int .u8 0)
        have q0 := hF.cell 0 (v := .int .u8 0) rfl
        have q1 := hF.cell 1 (v := .int .i64 0) rfl
        have q2 := hF.cell 2 (v := .int .i64 0) rfl
        have q3 := hF.cell 3 (v := .int .i64 0) rfl
        have q4 := hF.cell 4 (v := .int .i64 0) rfl
        have q5 := hF.cell 5 (v := .int .i64 0) rfl
        have q6 := hF.cell 6 (v := .int .u8 0) rfl
        exact bodyPost_ret (v := .tuple #[.agg #[.int .u8 0, .int .i64 0, .int .i64 0, .int .i64 0, .int .i64 0, .int .i64 0, .int .u8 0], .int .i64 (zr.err : Int)]) (by simp [results, Tryd.results23, go_sem, q0, q1, q2, q3, q4, q5, q6]) rfl (by
          rw [HQ.out]
          have hrc : readC T V S c r0 = (⟨0, 0, 0, 0, 0, 0, 0⟩, zr.err, zr, c) := by
            unfold readC
            rw [HX.out]
            dsimp only
            rw [if_pos he]
          unfold RReadP
          rw [hrc]
          have hne := HE7.out.ne
          refine ⟨rfl, dfar7 HE7.out.bc (by omega) _ _ _ _ _ _ _, dfar7 HE7.out.rd (by omega) _ _ _ _ _ _ _, ?_⟩
          exact dturn7 (HE7.out.tu.mono (by simp)) (Nat.le_refl _) _ _ _ _ _ _ _)
    · subst hk
      have HT1 := hid (HS.out.told (most := 1) HSZ.out (by decide))
      have hle1 := numR_le y2 (1)
      obtain ⟨b1, hb1⟩ : ∃ q, q = numR y2 (1) := ⟨_, rfl⟩
      rw [← hb1] at HT1 hle1
      have HEQ1 := hid hb1.symm
      have HLE1 := hid hle1
      clear hb1 hle1
      have k5 := HS.out.rd.cell 1 (v := .int .i64 (y2.at_ : Int)) rfl
      have hon := (numR_ok HS.out.ok 1).2
      rw [HEQ1.out] at hon
      have HON := hid hon
      clear hon
      go_wp2_with fail
      refine HT1.out.mono ?_
      rintro e' w4 ⟨rfl, hS⟩
      have HS4 := hid hS
      clear hS HT1 HS k5 d0
      by_cases hn : b1.1 = 0
      · have g1 : ((b1.1 : Int) == 1) = false := by rw [beq_eq_false_iff_ne]; omega
        have g2 : decide (b1.1 = 1) = false := by simp [hn]
        have HNN := hid hn
        clear hn
        obtain ⟨ev, hev⟩ : ∃ ev : Ev, ev = ⟨7, (th : Int), 0, 0, 0, 0, 0⟩ := ⟨_, rfl⟩
        obtain ⟨zr, hzr⟩ : ∃ zr : Rdr, zr = b1.2 := ⟨_, rfl⟩
        have HX : Hid (lineR T V S c r0 = (ev, zr)) := hid (by
          rw [HRC.out, hev, hzr, ← HEQ1.out]
          have hn0 : (numR y2 1).1 = 0 := (congrArg Prod.fst HEQ1.out).trans HNN.out; unfold lineX; simp only [hn0]; simp)
        have HE : Hid (RSt T V S c s W C b L w4 zr ev) := hid (by rw [hev, hzr]; exact HS4.out)
        have HWR := hid (qwrong_any b s zr.at_ zr.err _ HE.out.rd)
        clear hev hzr HS4
        try clear HKE
        go_wp2_with fail
        refine HWR.out.mono ?_
        rintro e' W7 ⟨rfl, hb7⟩
        have HE7 := hid (HE.out.below hb7)
        have x0 := HE7.out.bz.cell 0 (v := .int .u8 0) rfl
        have x1 := HE7.out.bz.cell 1 (v := .int .i64 0) rfl
        have x2 := HE7.out.bz.cell 2 (v := .int .i64 0) rfl
        have x3 := HE7.out.bz.cell 3 (v := .int .i64 0) rfl
        have x4 := HE7.out.bz.cell 4 (v := .int .i64 0) rfl
        have x5 := HE7.out.bz.cell 5 (v := .int .i64 0) rfl
        have x6 := HE7.out.bz.cell 6 (v := .int .u8 0) rfl
        have y0 := HE7.out.bz.free 0
        have y1 := HE7.out.bz.free 1
        have y2 := HE7.out.bz.free 2
        have y3 := HE7.out.bz.free 3
        have y4 := HE7.out.bz.free 4
        have y5 := HE7.out.bz.free 5
        have y6 := HE7.out.bz.free 6
        clear hb7 HE HWR
        by_cases he : zr.err = 0
        · obtain ⟨ta, -, -, -⟩ := read_anew (T := T) (V := V) (S := S) (c := c) (s := byt s) (at_ := at_) (e := ev) (r' := zr) ⟨HTV.out.1.1, HTV.out.1.2, HTV.out.2.1.1, HTV.out.2.1.2, HTV.out.2.2.1, HTV.out.2.2.2⟩ HOK.out (byt_lt s) (by rw [← HR0.out]; exact HX.out) he
          have g1 : ((zr.err : Int) != 0) = false := by rw [he]; rfl
          obtain ⟨ek, eth, etx, ea, ev', ex, ewhy⟩ := ev
          have hth0 : 0 ≤ eth := by
            have h1 := ta
            unfold tellsC at h1
            rw [Bool.and_eq_true] at h1
            obtain ⟨-, ⟨-, -, -, t1, -⟩, -⟩ := may_sizes' h1.1
            dsimp only at t1
            omega
          obtain ⟨th2, rfl⟩ := Int.eq_ofNat_of_zero_le hth0
          obtain ⟨w1', w2', w3'⟩ := w_ats ta
          have l0 := HE7.out.be.cell 0 (v := .int .u8 ek) rfl
          have l1 := HE7.out.be.cell 1 (v := .int .i64 (th2 : Int)) rfl
          have l2 := HE7.out.be.cell 2 (v := .int .i64 etx) rfl
          have l3 := HE7.out.be.cell 3 (v := .int .i64 ea) rfl
          have l4 := HE7.out.be.cell 4 (v := .int .i64 ev') rfl
          have l5 := HE7.out.be.cell 5 (v := .int .i64 ex) rfl
          have l6 := HE7.out.be.cell 6 (v := .int .u8 ewhy) rfl
          have HKN := hid (qknows_any T V S c ek etx ea ev' ex ewhy th2 ea.toNat C W7 HE7.out.bc w1' w2' w3')
          dsimp only [evA] at HKN
          clear ta hth0 w1' w2' w3' x0 x1 x2 x3 x4 x5 x6 y0 y1 y2 y3 y4 y5 y6
          go_wp2_with fail
          refine HKN.out.mono ?_
          rintro e' W8 ⟨rfl, hC8, hT8⟩
          have hne := HE7.out.ne
          have hE8 := hT8.blk (k := W.heap.size) (by simp only [List.mem_cons, List.not_mem_nil, or_false]; omega) HE7.out.bz
          have hL8 := hT8.blk (k := L) (by simp only [List.mem_cons, List.not_mem_nil, or_false]; omega) HE7.out.be
          have hR8 : RRd W8 b s zr.at_ zr.err := Turn.blk hT8 (by simp only [List.mem_cons, List.not_mem_nil, or_false]; omega) HE7.out.rd
          have l0 := hL8.cell 0 (v := .int .u8 ek) rfl
          have l1 := hL8.cell 1 (v := .int .i64 (th2 : Int)) rfl
          have l2 := hL8.cell 2 (v := .int .i64 etx) rfl
          have l3 := hL8.cell 3 (v := .int .i64 ea) rfl
          have l4 := hL8.cell 4 (v := .int .i64 ev') rfl
          have l5 := hL8.cell 5 (v := .int .i64 ex) rfl
          have l6 := hL8.cell 6 (v := .int .u8 ewhy) rfl
          have x0 := hE8.cell 0 (v := .int .u8 0) rfl
          have y0 := hE8.free 0
          have x1 := hE8.cell 1 (v := .int .i64 0) rfl
          have y1 := hE8.free 1
          have x2 := hE8.cell 2 (v := .int .i64 0) rfl
          have y2 := hE8.free 2
          have x3 := hE8.cell 3 (v := .int .i64 0) rfl
          have y3 := hE8.free 3
          have x4 := hE8.cell 4 (v := .int .i64 0) rfl
          have y4 := hE8.free 4
          have x5 := hE8.cell 5 (v := .int .i64 0) rfl
          have y5 := hE8.free 5
          have x6 := hE8.cell 6 (v := .int .u8 0) rfl
          have y6 := hE8.free 6
          have HE8 := hid hE8
          have HR8 := hid hR8
          have HC8 := hid hC8
          have HT8 := hid hT8
          have HNE := hid hne
          clear hE8 hL8 hR8 hC8 hT8 hne
          go_wp2_with fail
          have hF := dset7 HE8.out (.int .u8 ek) (.int .i64 (th2 : Int)) (.int .i64 etx) (.int .i64 ea) (.int .i64 ev') (.int .i64 ex) (.int .u8 ewhy)
          have q0 := hF.cell 0 (v := .int .u8 ek) rfl
          have q1 := hF.cell 1 (v := .int .i64 (th2 : Int)) rfl
          have q2 := hF.cell 2 (v := .int .i64 etx) rfl
          have q3 := hF.cell 3 (v := .int .i64 ea) rfl
          have q4 := hF.cell 4 (v := .int .i64 ev') rfl
          have q5 := hF.cell 5 (v := .int .i64 ex) rfl
          have q6 := hF.cell 6 (v := .int .u8 ewhy) rfl
          exact bodyPost_ret (v := .tuple #[.agg #[.int .u8 ek, .int .i64 (th2 : Int), .int .i64 etx, .int .i64 ea, .int .i64 ev', .int .i64 ex, .int .u8 ewhy], .int .i64 0]) (by simp [results, Tryd.results23, go_sem, q0, q1, q2, q3, q4, q5, q6]) rfl (by
            rw [HQ.out]
            have hrc : readC T V S c r0 = (⟨ek, (th2 : Int), etx, ea, ev', ex, ewhy⟩, 0, zr, knowsC c ⟨ek, (th2 : Int), etx, ea, ev', ex, ewhy⟩) := by
              unfold readC
              rw [HX.out]
              dsimp only
              rw [if_neg (by rw [he]; decide)]
            unfold RReadP
            rw [hrc]
            have hne := HNE.out
            refine ⟨rfl, dfar7 HC8.out (by omega) _ _ _ _ _ _ _, dfar7 HR8.out (by omega) _ _ _ _ _ _ _, ?_⟩
            exact dturn7 ((HE7.out.tu.mono (by simp)).trans (HT8.out.mono (by simp))) (Nat.le_refl _) _ _ _ _ _ _ _)
        · have g1 : ((zr.err : Int) != 0) = true := by rw [bne_iff_ne]; omega
          go_wp2_with fail
          have hF := dset7 HE7.out.bz (.int .u8 0) (.int .i64 0) (.int .i64 0) (.int .i64 0) (.int .i64 0) (.int .i64 0) (.int .u8 0)
          have q0 := hF.cell 0 (v := .int .u8 0) rfl
          have q1 := hF.cell 1 (v := .int .i64 0) rfl
          have q2 := hF.cell 2 (v := .int .i64 0) rfl
          have q3 := hF.cell 3 (v := .int .i64 0) rfl
          have q4 := hF.cell 4 (v := .int .i64 0) rfl
          have q5 := hF.cell 5 (v := .int .i64 0) rfl
          have q6 := hF.cell 6 (v := .int .u8 0) rfl
          exact bodyPost_ret (v := .tuple #[.agg #[.int .u8 0, .int .i64 0, .int .i64 0, .int .i64 0, .int .i64 0, .int .i64 0, .int .u8 0], .int .i64 (zr.err : Int)]) (by simp [results, Tryd.results23, go_sem, q0, q1, q2, q3, q4, q5, q6]) rfl (by
            rw [HQ.out]
            have hrc : readC T V S c r0 = (⟨0, 0, 0, 0, 0, 0, 0⟩, zr.err, zr, c) := by
              unfold readC
              rw [HX.out]
              dsimp only
              rw [if_pos he]
            unfold RReadP
            rw [hrc]
            have hne := HE7.out.ne
            refine ⟨rfl, dfar7 HE7.out.bc (by omega) _ _ _ _ _ _ _, dfar7 HE7.out.rd (by omega) _ _ _ _ _ _ _, ?_⟩
            exact dturn7 (HE7.out.tu.mono (by simp)) (Nat.le_refl _) _ _ _ _ _ _ _)
      · have hn1 : b1.1 = 1 := by have := HLE1.out; omega
        have g1 : ((b1.1 : Int) == 1) = true := by rw [beq_iff_eq]; omega
        have HNN := hid hn
        have e1 := HS4.out.be.cell 1 (v := .int .i64 (th : Int)) rfl
        have cq := HS4.out.bc.cell (11 + th) (cdr_bumped T V S c HTH.out)
        have HS5 := hid ((HS4.out.below (ext_drew (ext_refl _))).set 4 (.int .i64 (c.bumped (th : Int))) (e2 := ⟨7, (th : Int), 0, 0, c.bumped (th : Int), 0, 0⟩) rfl)
        clear hn hn1
        go_wp2_with fail
        go_still_tail 8, (by kernel_rfl)
        change wpList _ _ _ _ _ w4.drew
        have e4 := (HS4.out.below (ext_drew (ext_refl _))).be.cell 4 (v := .int .i64 0) rfl
        have z4 := (HS4.out.below (ext_drew (ext_refl _))).be.free 4
        generalize w4.drew = w5 at *
        clear e1 cq HS4
        have q4 := HS5.out.be.cell 4 (v := .int .i64 (c.bumped (th : Int))) rfl
        by_cases hu : c.bumped (th : Int) = 0
        · have g3 : (c.bumped (th : Int) == 0) = true := by rw [beq_iff_eq]; exact hu
          have HUU := hid hu
          have HT2 := hid (HS5.out.fail (place := y2.at_) HON.out)
          clear hu
          go_wp2_with fail
          refine HT2.out.mono ?_
          rintro e' w6 ⟨⟨v', rfl⟩, hS⟩
          have HS6 := hid hS
          clear hS HT2 HS5 e4 z4 q4
          obtain ⟨ev, hev⟩ : ∃ ev : Ev, ev = ⟨7, (th : Int), 0, 0, c.bumped (th : Int), 0, 0⟩ := ⟨_, rfl⟩
          obtain ⟨zr, hzr⟩ : ∃ zr : Rdr, zr = failR b1.2 y2.at_ := ⟨_, rfl⟩
          have HX : Hid (lineR T V S c r0 = (ev, zr)) := hid (by
            rw [HRC.out, hev, hzr, ← HEQ1.out]
            have hn0 : (numR y2 1).1 ≠ 0 := fun h => HNN.out ((congrArg Prod.fst HEQ1.out).symm.trans h); unfold lineX; simp only [if_neg hn0, if_pos HUU.out]; simp)
          have HE : Hid (RSt T V S c s W C b L w6 zr ev) := hid (by rw [hev, hzr]; exact HS6.out)
          have HWR := hid (qwrong_any b s zr.at_ zr.err _ HE.out.rd)
          clear hev hzr HS6
          try clear HKE
          go_wp2_with fail
          refine HWR.out.mono ?_
          rintro e' W7 ⟨rfl, hb7⟩
          have HE7 := hid (HE.out.below hb7)
          have x0 := HE7.out.bz.cell 0 (v := .int .u8 0) rfl
          have x1 := HE7.out.bz.cell 1 (v := .int .i64 0) rfl
          have x2 := HE7.out.bz.cell 2 (v := .int .i64 0) rfl
          have x3 := HE7.out.bz.cell 3 (v := .int .i64 0) rfl
          have x4 := HE7.out.bz.cell 4 (v := .int .i64 0) rfl
          have x5 := HE7.out.bz.cell 5 (v := .int .i64 0) rfl
          have x6 := HE7.out.bz.cell 6 (v := .int .u8 0) rfl
          have y0 := HE7.out.bz.free 0
          have y1 := HE7.out.bz.free 1
          have y2 := HE7.out.bz.free 2
          have y3 := HE7.out.bz.free 3
          have y4 := HE7.out.bz.free 4
          have y5 := HE7.out.bz.free 5
          have y6 := HE7.out.bz.free 6
          clear hb7 HE HWR
          by_cases he : zr.err = 0
          · obtain ⟨ta, -, -, -⟩ := read_anew (T := T) (V := V) (S := S) (c := c) (s := byt s) (at_ := at_) (e := ev) (r' := zr) ⟨HTV.out.1.1, HTV.out.1.2, HTV.out.2.1.1, HTV.out.2.1.2, HTV.out.2.2.1, HTV.out.2.2.2⟩ HOK.out (byt_lt s) (by rw [← HR0.out]; exact HX.out) he
            have g1 : ((zr.err : Int) != 0) = false := by rw [he]; rfl
            obtain ⟨ek, eth, etx, ea, ev', ex, ewhy⟩ := ev
            have hth0 : 0 ≤ eth := by
              have h1 := ta
              unfold tellsC at h1
              rw [Bool.and_eq_true] at h1
              obtain ⟨-, ⟨-, -, -, t1, -⟩, -⟩ := may_sizes' h1.1
              dsimp only at t1
              omega
            obtain ⟨th2, rfl⟩ := Int.eq_ofNat_of_zero_le hth0
            obtain ⟨w1', w2', w3'⟩ := w_ats ta
            have l0 := HE7.out.be.cell 0 (v := .int .u8 ek) rfl
            have l1 := HE7.out.be.cell 1 (v := .int .i64 (th2 : Int)) rfl
            have l2 := HE7.out.be.cell 2 (v := .int .i64 etx) rfl
            have l3 := HE7.out.be.cell 3 (v := .int .i64 ea) rfl
            have l4 := HE7.out.be.cell 4 (v := .int .i64 ev') rfl
            have l5 := HE7.out.be.cell 5 (v := .int .i64 ex) rfl
            have l6 := HE7.out.be.cell 6 (v := .int .u8 ewhy) rfl
            have HKN := hid (qknows_any T V S c ek etx ea ev' ex ewhy th2 ea.toNat C W7 HE7.out.bc w1' w2' w3')
            dsimp only [evA] at HKN
            clear ta hth0 w1' w2' w3' x0 x1 x2 x3 x4 x5 x6 y0 y1 y2 y3 y4 y5 y6
            go_wp2_with fail
            refine HKN.out.mono ?_
            rintro e' W8 ⟨rfl, hC8, hT8⟩
            have hne := HE7.out.ne
            have hE8 := hT8.blk (k := W.heap.size) (by simp only [List.mem_cons, List.not_mem_nil, or_false]; omega) HE7.out.bz
            have hL8 := hT8.blk (k := L) (by simp only [List.mem_cons, List.not_mem_nil, or_false]; omega) HE7.out.be
            have hR8 : RRd W8 b s zr.at_ zr.err := Turn.blk hT8 (by simp only [List.mem_cons, List.not_mem_nil, or_false]; omega) HE7.out.rd
            have l0 := hL8.cell 0 (v := .int .u8 ek) rfl
            have l1 := hL8.cell 1 (v := .int .i64 (th2 : Int)) rfl
            have l2 := hL8.cell 2 (v := .int .i64 etx) rfl
            have l3 := hL8.cell 3 (v := .int .i64 ea) rfl
            have l4 := hL8.cell 4 (v := .int .i64 ev') rfl
            have l5 := hL8.cell 5 (v := .int .i64 ex) rfl
            have l6 := hL8.cell 6 (v := .int .u8 ewhy) rfl
            have x0 := hE8.cell 0 (v := .int .u8 0) rfl
            have y0 := hE8.free 0
            have x1 := hE8.cell 1 (v := .int .i64 0) rfl
            have y1 := hE8.free 1
            have x2 := hE8.cell 2 (v := .int .i64 0) rfl
            have y2 := hE8.free 2
            have x3 := hE8.cell 3 (v := .int .i64 0) rfl
            have y3 := hE8.free 3
            have x4 := hE8.cell 4 (v := .int .i64 0) rfl
            have y4 := hE8.free 4
            have x5 := hE8.cell 5 (v := .int .i64 0) rfl
            have y5 := hE8.free 5
            have x6 := hE8.cell 6 (v := .int .u8 0) rfl
            have y6 := hE8.free 6
            have HE8 := hid hE8
            have HR8 := hid hR8
            have HC8 := hid hC8
            have HT8 := hid hT8
            have HNE := hid hne
            clear hE8 hL8 hR8 hC8 hT8 hne
            go_wp2_with fail
            have hF := dset7 HE8.out (.int .u8 ek) (.int .i64 (th2 : Int)) (.int .i64 etx) (.int .i64 ea) (.int .i64 ev') (.int .i64 ex) (.int .u8 ewhy)
            have q0 := hF.cell 0 (v := .int .u8 ek) rfl
            have q1 := hF.cell 1 (v := .int .i64 (th2 : Int)) rfl
            have q2 := hF.cell 2 (v := .int .i64 etx) rfl
            have q3 := hF.cell 3 (v := .int .i64 ea) rfl
            have q4 := hF.cell 4 (v := .int .i64 ev') rfl
            have q5 := hF.cell 5 (v := .int .i64 ex) rfl
            have q6 := hF.cell 6 (v := .int .u8 ewhy) rfl
            exact bodyPost_ret (v := .tuple #[.agg #[.int .u8 ek, .int .i64 (th2 : Int), .int .i64 etx, .int .i64 ea, .int .i64 ev', .int .i64 ex, .int .u8 ewhy], .int .i64 0]) (by simp [results, Tryd.results23, go_sem, q0, q1, q2, q3, q4, q5, q6]) rfl (by
              rw [HQ.out]
              have hrc : readC T V S c r0 = (⟨ek, (th2 : Int), etx, ea, ev', ex, ewhy⟩, 0, zr, knowsC c ⟨ek, (th2 : Int), etx, ea, ev', ex, ewhy⟩) := by
                unfold readC
                rw [HX.out]
                dsimp only
                rw [if_neg (by rw [he]; decide)]
              unfold RReadP
              rw [hrc]
              have hne := HNE.out
              refine ⟨rfl, dfar7 HC8.out (by omega) _ _ _ _ _ _ _, dfar7 HR8.out (by omega) _ _ _ _ _ _ _, ?_⟩
              exact dturn7 ((HE7.out.tu.mono (by simp)).trans (HT8.out.mono (by simp))) (Nat.le_refl _) _ _ _ _ _ _ _)
          · have g1 : ((zr.err : Int) != 0) = true := by rw [bne_iff_ne]; omega
            go_wp2_with fail
            have hF := dset7 HE7.out.bz (.int .u8 0) (.int .i64 0) (.int .i64 0) (.int .i64 0) (.int .i64 0) (.int .i64 0) (.int .u8 0)
            have q0 := hF.cell 0 (v := .int .u8 0) rfl
            have q1 := hF.cell 1 (v := .int .i64 0) rfl
            have q2 := hF.cell 2 (v := .int .i64 0) rfl
            have q3 := hF.cell 3 (v := .int .i64 0) rfl
            have q4 := hF.cell 4 (v := .int .i64 0) rfl
            have q5 := hF.cell 5 (v := .int .i64 0) rfl
            have q6 := hF.cell 6 (v := .int .u8 0) rfl
            exact bodyPost_ret (v := .tuple #[.agg #[.int .u8 0, .int .i64 0, .int .i64 0, .int .i64 0, .int .i64 0, .int .i64 0, .int .u8 0], .int .i64 (zr.err : Int)]) (by simp [results, Tryd.results23, go_sem, q0, q1, q2, q3, q4, q5, q6]) rfl (by
              rw [HQ.out]
              have hrc : readC T V S c r0 = (⟨0, 0, 0, 0, 0, 0, 0⟩, zr.err, zr, c) := by
                unfold readC
                rw [HX.out]
                dsimp only
                rw [if_pos he]
              unfold RReadP
              rw [hrc]
              have hne := HE7.out.ne
              refine ⟨rfl, dfar7 HE7.out.bc (by omega) _ _ _ _ _ _ _, dfar7 HE7.out.rd (by omega) _ _ _ _ _ _ _, ?_⟩
              exact dturn7 (HE7.out.tu.mono (by simp)) (Nat.le_refl _) _ _ _ _ _ _ _)
        · have g3 : (c.bumped (th : Int) == 0) = false := by rw [beq_eq_false_iff_ne]; exact hu
          have g4 : decide (c.bumped (th : Int) = 0) = false := by simp [hu]
          have HUU := hid hu
          clear hu
          obtain ⟨ev, hev⟩ : ∃ ev : Ev, ev = ⟨7, (th : Int), 0, 0, c.bumped (th : Int), 0, 0⟩ := ⟨_, rfl⟩
          obtain ⟨zr, hzr⟩ : ∃ zr : Rdr, zr = b1.2 := ⟨_, rfl⟩
          have HX : Hid (lineR T V S c r0 = (ev, zr)) := hid (by
            rw [HRC.out, hev, hzr, ← HEQ1.out]
            have hn0 : (numR y2 1).1 ≠ 0 := fun h => HNN.out ((congrArg Prod.fst HEQ1.out).symm.trans h); unfold lineX; simp only [if_neg hn0, if_neg HUU.out]; simp)
          have HE : Hid (RSt T V S c s W C b L (w5.setCell ⟨L, 4, none⟩ (.int .i64 (c.bumped (th : Int)))) zr ev) := hid (by rw [hev, hzr]; exact HS5.out)
          have HWR := hid (qwrong_any b s zr.at_ zr.err _ HE.out.rd)
          clear hev hzr HS5
          try clear HKE
          go_wp2_with fail
          refine HWR.out.mono ?_
          rintro e' W7 ⟨rfl, hb7⟩
          have HE7 := hid (HE.out.below hb7)
          have x0 := HE7.out.bz.cell 0 (v := .int .u8 0) rfl
          have x1 := HE7.out.bz.cell 1 (v := .int .i64 0) rfl
          have x2 := HE7.out.bz.cell 2 (v := .int .i64 0) rfl
          have x3 := HE7.out.bz.cell 3 (v := .int .i64 0) rfl
          have x4 := HE7.out.bz.cell 4 (v := .int .i64 0) rfl
          have x5 := HE7.out.bz.cell 5 (v := .int .i64 0) rfl
          have x6 := HE7.out.bz.cell 6 (v := .int .u8 0) rfl
          have y0 := HE7.out.bz.free 0
          have y1 := HE7.out.bz.free 1
          have y2 := HE7.out.bz.free 2
          have y3 := HE7.out.bz.free 3
          have y4 := HE7.out.bz.free 4
          have y5 := HE7.out.bz.free 5
          have y6 := HE7.out.bz.free 6
          clear hb7 HE HWR
          by_cases he : zr.err = 0
          · obtain ⟨ta, -, -, -⟩ := read_anew (T := T) (V := V) (S := S) (c := c) (s := byt s) (at_ := at_) (e := ev) (r' := zr) ⟨HTV.out.1.1, HTV.out.1.2, HTV.out.2.1.1, HTV.out.2.1.2, HTV.out.2.2.1, HTV.out.2.2.2⟩ HOK.out (byt_lt s) (by rw [← HR0.out]; exact HX.out) he
            have g1 : ((zr.err : Int) != 0) = false := by rw [he]; rfl
            obtain ⟨ek, eth, etx, ea, ev', ex, ewhy⟩ := ev
            have hth0 : 0 ≤ eth := by
              have h1 := ta
              unfold tellsC at h1
              rw [Bool.and_eq_true] at h1
              obtain ⟨-, ⟨-, -, -, t1, -⟩, -⟩ := may_sizes' h1.1
              dsimp only at t1
              omega
            obtain ⟨th2, rfl⟩ := Int.eq_ofNat_of_zero_le hth0
            obtain ⟨w1', w2', w3'⟩ := w_ats ta
            have l0 := HE7.out.be.cell 0 (v := .int .u8 ek) rfl
            have l1 := HE7.out.be.cell 1 (v := .int .i64 (th2 : Int)) rfl
            have l2 := HE7.out.be.cell 2 (v := .int .i64 etx) rfl
            have l3 := HE7.out.be.cell 3 (v := .int .i64 ea) rfl
            have l4 := HE7.out.be.cell 4 (v := .int .i64 ev') rfl
            have l5 := HE7.out.be.cell 5 (v := .int .i64 ex) rfl
            have l6 := HE7.out.be.cell 6 (v := .int .u8 ewhy) rfl
            have HKN := hid (qknows_any T V S c ek etx ea ev' ex ewhy th2 ea.toNat C W7 HE7.out.bc w1' w2' w3')
            dsimp only [evA] at HKN
            clear ta hth0 w1' w2' w3' x0 x1 x2 x3 x4 x5 x6 y0 y1 y2 y3 y4 y5 y6
            go_wp2_with fail
            refine HKN.out.mono ?_
            rintro e' W8 ⟨rfl, hC8, hT8⟩
            have hne := HE7.out.ne
            have hE8 := hT8.blk (k := W.heap.size) (by simp only [List.mem_cons, List.not_mem_nil, or_false]; omega) HE7.out.bz
            have hL8 := hT8.blk (k := L) (by simp only [List.mem_cons, List.not_mem_nil, or_false]; omega) HE7.out.be
            have hR8 : RRd W8 b s zr.at_ zr.err := Turn.blk hT8 (by simp only [List.mem_cons, List.not_mem_nil, or_false]; omega) HE7.out.rd
            have l0 := hL8.cell 0 (v := .int .u8 ek) rfl
            have l1 := hL8.cell 1 (v := .int .i64 (th2 : Int)) rfl
            have l2 := hL8.cell 2 (v := .int .i64 etx) rfl
            have l3 := hL8.cell 3 (v := .int .i64 ea) rfl
            have l4 := hL8.cell 4 (v := .int .i64 ev') rfl
            have l5 := hL8.cell 5 (v := .int .i64 ex) rfl
            have l6 := hL8.cell 6 (v := .int .u8 ewhy) rfl
            have x0 := hE8.cell 0 (v := .int .u8 0) rfl
            have y0 := hE8.free 0
            have x1 := hE8.cell 1 (v := .int .i64 0) rfl
            have y1 := hE8.free 1
            have x2 := hE8.cell 2 (v := .int .i64 0) rfl
            have y2 := hE8.free 2
            have x3 := hE8.cell 3 (v := .int .i64 0) rfl
            have y3 := hE8.free 3
            have x4 := hE8.cell 4 (v := .int .i64 0) rfl
            have y4 := hE8.free 4
            have x5 := hE8.cell 5 (v := .int .i64 0) rfl
            have y5 := hE8.free 5
            have x6 := hE8.cell 6 (v := .int .u8 0) rfl
            have y6 := hE8.free 6
            have HE8 := hid hE8
            have HR8 := hid hR8
            have HC8 := hid hC8
            have HT8 := hid hT8
            have HNE := hid hne
            clear hE8 hL8 hR8 hC8 hT8 hne
            go_wp2_with fail
            have hF := dset7 HE8.out (.int .u8 ek) (.int .i64 (th2 : Int)) (.int .i64 etx) (.int .i64 ea) (.int .i64 ev') (.int .i64 ex) (.int .u8 ewhy)
            have q0 := hF.cell 0 (v := .int .u8 ek) rfl
            have q1 := hF.cell 1 (v := .int .i64 (th2 : Int)) rfl
            have q2 := hF.cell 2 (v := .int .i64 etx) rfl
            have q3 := hF.cell 3 (v := .int .i64 ea) rfl
            have q4 := hF.cell 4 (v := .int .i64 ev') rfl
            have q5 := hF.cell 5 (v := .int .i64 ex) rfl
            have q6 := hF.cell 6 (v := .int .u8 ewhy) rfl
            exact bodyPost_ret (v := .tuple #[.agg #[.int .u8 ek, .int .i64 (th2 : Int), .int .i64 etx, .int .i64 ea, .int .i64 ev', .int .i64 ex, .int .u8 ewhy], .int .i64 0]) (by simp [results, Tryd.results23, go_sem, q0, q1, q2, q3, q4, q5, q6]) rfl (by
              rw [HQ.out]
              have hrc : readC T V S c r0 = (⟨ek, (th2 : Int), etx, ea, ev', ex, ewhy⟩, 0, zr, knowsC c ⟨ek, (th2 : Int), etx, ea, ev', ex, ewhy⟩) := by
                unfold readC
                rw [HX.out]
                dsimp only
                rw [if_neg (by rw [he]; decide)]
              unfold RReadP
              rw [hrc]
              have hne := HNE.out
              refine ⟨rfl, dfar7 HC8.out (by omega) _ _ _ _ _ _ _, dfar7 HR8.out (by omega) _ _ _ _ _ _ _, ?_⟩
              exact dturn7 ((HE7.out.tu.mono (by simp)).trans (HT8.out.mono (by simp))) (Nat.le_refl _) _ _ _ _ _ _ _)
          · have g1 : ((zr.err : Int) != 0) = true := by rw [bne_iff_ne]; omega
            go_wp2_with fail
            have hF := dset7 HE7.out.bz (.int .u8 0) (.int .i64 0) (.int .i64 0) (.int .i64 0) (.int .i64 0) (.int .i64 0) (.int .u8 0)
            have q0 := hF.cell 0 (v := .int .u8 0) rfl
            have q1 := hF.cell 1 (v := .int .i64 0) rfl
            have q2 := hF.cell 2 (v := .int .i64 0) rfl
            have q3 := hF.cell 3 (v := .int .i64 0) rfl
            have q4 := hF.cell 4 (v := .int .i64 0) rfl
            have q5 := hF.cell 5 (v := .int .i64 0) rfl
            have q6 := hF.cell 6 (v := .int .u8 0) rfl
            exact bodyPost_ret (v := .tuple #[.agg #[.int .u8 0, .int .i64 0, .int .i64 0, .int .i64 0, .int .i64 0, .int .i64 0, .int .u8 0], .int .i64 (zr.err : Int)]) (by simp [results, Tryd.results23, go_sem, q0, q1, q2, q3, q4, q5, q6]) rfl (by
              rw [HQ.out]
              have hrc : readC T V S c r0 = (⟨0, 0, 0, 0, 0, 0, 0⟩, zr.err, zr, c) := by
                unfold readC
                rw [HX.out]
                dsimp only
                rw [if_pos he]
              unfold RReadP
              rw [hrc]
              have hne := HE7.out.ne
              refine ⟨rfl, dfar7 HE7.out.bc (by omega) _ _ _ _ _ _ _, dfar7 HE7.out.rd (by omega) _ _ _ _ _ _ _, ?_⟩
              exact dturn7 (HE7.out.tu.mono (by simp)) (Nat.le_refl _) _ _ _ _ _ _ _)
    · subst hk
      have HT1 := hid (HS.out.told (most := (V - 1).toNat) HSZ.out (by have := HTV.out; omega))
      rw [tn (show 0 ≤ V - 1 by have := HTV.out; omega)] at HT1
      have hle1 := numR_le y2 ((V - 1).toNat)
      obtain ⟨b1, hb1⟩ : ∃ q, q = numR y2 ((V - 1).toNat) := ⟨_, rfl⟩
      rw [← hb1] at HT1 hle1
      have HEQ1 := hid hb1.symm
      have HLE1 := hid hle1
      clear hb1 hle1
      have k2 := HS.out.bc.cell 1 (v := .int .i64 V) rfl
      have j1 : IntKind.i64.wrap (V - 1) = V - 1 := IntWalk.i64_in _ (by have := HTV.out; omega)
      go_wp2_with fail
      refine HT1.out.mono ?_
      rintro e' w4 ⟨rfl, hS⟩
      have c2 := hS.be.cell 3 (v := .int .i64 0) rfl
      have z2 := hS.be.free 3
      have HS5 := hid (hS.set 3 (.int .i64 (b1.1 : Int)) (e2 := ⟨8, (th : Int), 0, (b1.1 : Int), 0, 0, 0⟩) rfl)
      clear hS HT1 HS
      have HT2 := hid (HS5.out.int HSZ.out)
      obtain ⟨b2, hb2⟩ : ∃ q, q = numR b1.2 maxU := ⟨_, rfl⟩
      rw [← hb2] at HT2
      have HEQ2 := hid hb2.symm
      obtain ⟨zz, hzz⟩ : ∃ z, z = zagZ b2.1 := ⟨_, rfl⟩
      rw [← hzz] at HT2
      have HZZ := hid hzz.symm
      have j3 := wrap_w64 (c.x (b1.1 : Int) + zz)
      have jq0 : (0 : Int) ≤ (b1.1 : Int) := by omega
      have jq1 : (b1.1 : Int) < 32 := by have := HLE1.out; have := HTV.out; omega
      have HQ32 : Hid (b1.1 < 32) := hid (by omega)
      clear hb2 hzz
      go_wp2_with fail
      refine HT2.out.mono ?_
      rintro e' w6 ⟨rfl, hS⟩
      have HS6 := hid hS
      clear hS HT2 HS5 c2 z2 d0 k2 j1
      have e3 := HS6.out.be.cell 3 (v := .int .i64 (b1.1 : Int)) rfl
      have cq := HS6.out.bc.cell (17 + b1.1) (cdr_x T V S c HQ32.out)
      have HS7 := hid ((HS6.out.below (ext_drew (ext_refl _))).set 5 (.int .i64 (w64 (c.x (b1.1 : Int) + zz))) (e2 := ⟨8, (th : Int), 0, (b1.1 : Int), 0, w64 (c.x (b1.1 : Int) + zz), 0⟩) rfl)
      go_wp2_with fail
      go_still_tail 10, (by kernel_rfl)
      change wpList _ _ _ _ _ w6.drew
      have e5 := (HS6.out.below (ext_drew (ext_refl _))).be.cell 5 (v := .int .i64 0) rfl
      have z5 := (HS6.out.below (ext_drew (ext_refl _))).be.free 5
      generalize w6.drew = w7 at *
      clear e3 cq HS6
      obtain ⟨ev, hev⟩ : ∃ ev : Ev, ev = ⟨8, (th : Int), 0, (b1.1 : Int), 0, w64 (c.x (b1.1 : Int) + zz), 0⟩ := ⟨_, rfl⟩
      obtain ⟨zr, hzr⟩ : ∃ zr : Rdr, zr = b2.2 := ⟨_, rfl⟩
      have HX : Hid (lineR T V S c r0 = (ev, zr)) := hid (by
        rw [HRC.out, hev, hzr, ← HZZ.out, ← HEQ2.out, ← HEQ1.out]
        first | rfl | (unfold lineX; simp))
      have HE : Hid (RSt T V S c s W C b L (w7.setCell ⟨L, 5, none⟩ (.int .i64 (w64 (c.x (b1.1 : Int) + zz)))) zr ev) := hid (by rw [hev, hzr]; exact HS7.out)
      have HWR := hid (qwrong_any b s zr.at_ zr.err _ HE.out.rd)
      clear hev hzr HS7
      try clear HKE
      go_wp2_with fail
      refine HWR.out.mono ?_
      rintro e' W7 ⟨rfl, hb7⟩
      have HE7 := hid (HE.out.below hb7)
      have x0 := HE7.out.bz.cell 0 (v := .int .u8 0) rfl
      have x1 := HE7.out.bz.cell 1 (v := .int .i64 0) rfl
      have x2 := HE7.out.bz.cell 2 (v := .int .i64 0) rfl
      have x3 := HE7.out.bz.cell 3 (v := .int .i64 0) rfl
      have x4 := HE7.out.bz.cell 4 (v := .int .i64 0) rfl
      have x5 := HE7.out.bz.cell 5 (v := .int .i64 0) rfl
      have x6 := HE7.out.bz.cell 6 (v := .int .u8 0) rfl
      have y0 := HE7.out.bz.free 0
      have y1 := HE7.out.bz.free 1
      have y2 := HE7.out.bz.free 2
      have y3 := HE7.out.bz.free 3
      have y4 := HE7.out.bz.free 4
      have y5 := HE7.out.bz.free 5
      have y6 := HE7.out.bz.free 6
      clear hb7 HE HWR
      by_cases he : zr.err = 0
      · obtain ⟨ta, -, -, -⟩ := read_anew (T := T) (V := V) (S := S) (c := c) (s := byt s) (at_ := at_) (e := ev) (r' := zr) ⟨HTV.out.1.1, HTV.out.1.2, HTV.out.2.1.1, HTV.out.2.1.2, HTV.out.2.2.1, HTV.out.2.2.2⟩ HOK.out (byt_lt s) (by rw [← HR0.out]; exact HX.out) he
        have g1 : ((zr.err : Int) != 0) = false := by rw [he]; rfl
        obtain ⟨ek, eth, etx, ea, ev', ex, ewhy⟩ := ev
        have hth0 : 0 ≤ eth := by
          have h1 := ta
          unfold tellsC at h1
          rw [Bool.and_eq_true] at h1
          obtain ⟨-, ⟨-, -, -, t1, -⟩, -⟩ := may_sizes' h1.1
          dsimp only at t1
          omega
        obtain ⟨th2, rfl⟩ := Int.eq_ofNat_of_zero_le hth0
        obtain ⟨w1', w2', w3'⟩ := w_ats ta
        have l0 := HE7.out.be.cell 0 (v := .int .u8 ek) rfl
        have l1 := HE7.out.be.cell 1 (v := .int .i64 (th2 : Int)) rfl
        have l2 := HE7.out.be.cell 2 (v := .int .i64 etx) rfl
        have l3 := HE7.out.be.cell 3 (v := .int .i64 ea) rfl
        have l4 := HE7.out.be.cell 4 (v := .int .i64 ev') rfl
        have l5 := HE7.out.be.cell 5 (v := .int .i64 ex) rfl
        have l6 := HE7.out.be.cell 6 (v := .int .u8 ewhy) rfl
        have HKN := hid (qknows_any T V S c ek etx ea ev' ex ewhy th2 ea.toNat C W7 HE7.out.bc w1' w2' w3')
        dsimp only [evA] at HKN
        clear ta hth0 w1' w2' w3' x0 x1 x2 x3 x4 x5 x6 y0 y1 y2 y3 y4 y5 y6
        go_wp2_with fail
        refine HKN.out.mono ?_
        rintro e' W8 ⟨rfl, hC8, hT8⟩
        have hne := HE7.out.ne
        have hE8 := hT8.blk (k := W.heap.size) (by simp only [List.mem_cons, List.not_mem_nil, or_false]; omega) HE7.out.bz
        have hL8 := hT8.blk (k := L) (by simp only [List.mem_cons, List.not_mem_nil, or_false]; omega) HE7.out.be
        have hR8 : RRd W8 b s zr.at_ zr.err := Turn.blk hT8 (by simp only [List.mem_cons, List.not_mem_nil, or_false]; omega) HE7.out.rd
        have l0 := hL8.cell 0 (v := .int .u8 ek) rfl
        have l1 := hL8.cell 1 (v := .int .i64 (th2 : Int)) rfl
        have l2 := hL8.cell 2 (v := .int .i64 etx) rfl
        have l3 := hL8.cell 3 (v := .int .i64 ea) rfl
        have l4 := hL8.cell 4 (v := .int .i64 ev') rfl
        have l5 := hL8.cell 5 (v := .int .i64 ex) rfl
        have l6 := hL8.cell 6 (v := .int .u8 ewhy) rfl
        have x0 := hE8.cell 0 (v := .int .u8 0) rfl
        have y0 := hE8.free 0
        have x1 := hE8.cell 1 (v := .int .i64 0) rfl
        have y1 := hE8.free 1
        have x2 := hE8.cell 2 (v := .int .i64 0) rfl
        have y2 := hE8.free 2
        have x3 := hE8.cell 3 (v := .int .i64 0) rfl
        have y3 := hE8.free 3
        have x4 := hE8.cell 4 (v := .int .i64 0) rfl
        have y4 := hE8.free 4
        have x5 := hE8.cell 5 (v := .int .i64 0) rfl
        have y5 := hE8.free 5
        have x6 := hE8.cell 6 (v := .int .u8 0) rfl
        have y6 := hE8.free 6
        have HE8 := hid hE8
        have HR8 := hid hR8
        have HC8 := hid hC8
        have HT8 := hid hT8
        have HNE := hid hne
        clear hE8 hL8 hR8 hC8 hT8 hne
        go_wp2_with fail
        have hF := dset7 HE8.out (.int .u8 ek) (.int .i64 (th2 : Int)) (.int .i64 etx) (.int .i64 ea) (.int .i64 ev') (.int .i64 ex) (.int .u8 ewhy)
        have q0 := hF.cell 0 (v := .int .u8 ek) rfl
        have q1 := hF.cell 1 (v := .int .i64 (th2 : Int)) rfl
        have q2 := hF.cell 2 (v := .int .i64 etx) rfl
        have q3 := hF.cell 3 (v := .int .i64 ea) rfl
        have q4 := hF.cell 4 (v := .int .i64 ev') rfl
        have q5 := hF.cell 5 (v := .int .i64 ex) rfl
        have q6 := hF.cell 6 (v := .int .u8 ewhy) rfl
        exact bodyPost_ret (v := .tuple #[.agg #[.int .u8 ek, .int .i64 (th2 : Int), .int .i64 etx, .int .i64 ea, .int .i64 ev', .int .i64 ex, .int .u8 ewhy], .int .i64 0]) (by simp [results, Tryd.results23, go_sem, q0, q1, q2, q3, q4, q5, q6]) rfl (by
          rw [HQ.out]
          have hrc : readC T V S c r0 = (⟨ek, (th2 : Int), etx, ea, ev', ex, ewhy⟩, 0, zr, knowsC c ⟨ek, (th2 : Int), etx, ea, ev', ex, ewhy⟩) := by
            unfold readC
            rw [HX.out]
            dsimp only
            rw [if_neg (by rw [he]; decide)]
          unfold RReadP
          rw [hrc]
          have hne := HNE.out
          refine ⟨rfl, dfar7 HC8.out (by omega) _ _ _ _ _ _ _, dfar7 HR8.out (by omega) _ _ _ _ _ _ _, ?_⟩
          exact dturn7 ((HE7.out.tu.mono (by simp)).trans (HT8.out.mono (by simp))) (Nat.le_refl _) _ _ _ _ _ _ _)
      · have g1 : ((zr.err : Int) != 0) = true := by rw [bne_iff_ne]; omega
        go_wp2_with fail
        have hF := dset7 HE7.out.bz (.int .u8 0) (.int .i64 0) (.int .i64 0) (.int .i64 0) (.int .i64 0) (.int .i64 0) (.int .u8 0)
        have q0 := hF.cell 0 (v := .int .u8 0) rfl
        have q1 := hF.cell 1 (v := .int .i64 0) rfl
        have q2 := hF.cell 2 (v := .int .i64 0) rfl
        have q3 := hF.cell 3 (v := .int .i64 0) rfl
        have q4 := hF.cell 4 (v := .int .i64 0) rfl
        have q5 := hF.cell 5 (v := .int .i64 0) rfl
        have q6 := hF.cell 6 (v := .int .u8 0) rfl
        exact bodyPost_ret (v := .tuple #[.agg #[.int .u8 0, .int .i64 0, .int .i64 0, .int .i64 0, .int .i64 0, .int .i64 0, .int .u8 0], .int .i64 (zr.err : Int)]) (by simp [results, Tryd.results23, go_sem, q0, q1, q2, q3, q4, q5, q6]) rfl (by
          rw [HQ.out]
          have hrc : readC T V S c r0 = (⟨0, 0, 0, 0, 0, 0, 0⟩, zr.err, zr, c) := by
            unfold readC
            rw [HX.out]
            dsimp only
            rw [if_pos he]
          unfold RReadP
          rw [hrc]
          have hne := HE7.out.ne
          refine ⟨rfl, dfar7 HE7.out.bc (by omega) _ _ _ _ _ _ _, dfar7 HE7.out.rd (by omega) _ _ _ _ _ _ _, ?_⟩
          exact dturn7 (HE7.out.tu.mono (by simp)) (Nat.le_refl _) _ _ _ _ _ _ _)
    · subst hk
      have HT1 := hid (HS.out.told (most := (S - 1).toNat) HSZ.out (by have := HTV.out; omega))
      rw [tn (show 0 ≤ S - 1 by have := HTV.out; omega)] at HT1
      have hle1 := numR_le y2 ((S - 1).toNat)
      obtain ⟨b1, hb1⟩ : ∃ q, q = numR y2 ((S - 1).toNat) := ⟨_, rfl⟩
      rw [← hb1] at HT1 hle1
      have HEQ1 := hid hb1.symm
      have HLE1 := hid hle1
      clear hb1 hle1
      have k2 := HS.out.bc.cell 2 (v := .int .i64 S) rfl
      have j1 : IntKind.i64.wrap (S - 1) = S - 1 := IntWalk.i64_in _ (by have := HTV.out; omega)
      go_wp2_with fail
      refine HT1.out.mono ?_
      rintro e' w4 ⟨rfl, hS⟩
      have c2 := hS.be.cell 3 (v := .int .i64 0) rfl
      have z2 := hS.be.free 3
      have HS5 := hid (hS.set 3 (.int .i64 (b1.1 : Int)) (e2 := ⟨9, (th : Int), 0, (b1.1 : Int), 0, 0, 0⟩) rfl)
      clear hS HT1 HS
      obtain ⟨ev, hev⟩ : ∃ ev : Ev, ev = ⟨9, (th : Int), 0, (b1.1 : Int), 0, 0, 0⟩ := ⟨_, rfl⟩
      obtain ⟨zr, hzr⟩ : ∃ zr : Rdr, zr = b1.2 := ⟨_, rfl⟩
      have HX : Hid (lineR T V S c r0 = (ev, zr)) := hid (by
        rw [HRC.out, hev, hzr, ← HEQ1.out]
        first | rfl | (unfold lineX; simp))
      have HE : Hid (RSt T V S c s W C b L (w4.setCell ⟨L, 3, none⟩ (.int .i64 (b1.1 : Int))) zr ev) := hid (by rw [hev, hzr]; exact HS5.out)
      have HWR := hid (qwrong_any b s zr.at_ zr.err _ HE.out.rd)
      clear hev hzr HS5
      try clear HKE
      go_wp2_with fail
      refine HWR.out.mono ?_
      rintro e' W7 ⟨rfl, hb7⟩
      have HE7 := hid (HE.out.below hb7)
      have x0 := HE7.out.bz.cell 0 (v := .int .u8 0) rfl
      have x1 := HE7.out.bz.cell 1 (v := .int .i64 0) rfl
      have x2 := HE7.out.bz.cell 2 (v := .int .i64 0) rfl
      have x3 := HE7.out.bz.cell 3 (v := .int .i64 0) rfl
      have x4 := HE7.out.bz.cell 4 (v := .int .i64 0) rfl
      have x5 := HE7.out.bz.cell 5 (v := .int .i64 0) rfl
      have x6 := HE7.out.bz.cell 6 (v := .int .u8 0) rfl
      have y0 := HE7.out.bz.free 0
      have y1 := HE7.out.bz.free 1
      have y2 := HE7.out.bz.free 2
      have y3 := HE7.out.bz.free 3
      have y4 := HE7.out.bz.free 4
      have y5 := HE7.out.bz.free 5
      have y6 := HE7.out.bz.free 6
      clear hb7 HE HWR
      by_cases he : zr.err = 0
      · obtain ⟨ta, -, -, -⟩ := read_anew (T := T) (V := V) (S := S) (c := c) (s := byt s) (at_ := at_) (e := ev) (r' := zr) ⟨HTV.out.1.1, HTV.out.1.2, HTV.out.2.1.1, HTV.out.2.1.2, HTV.out.2.2.1, HTV.out.2.2.2⟩ HOK.out (byt_lt s) (by rw [← HR0.out]; exact HX.out) he
        have g1 : ((zr.err : Int) != 0) = false := by rw [he]; rfl
        obtain ⟨ek, eth, etx, ea, ev', ex, ewhy⟩ := ev
        have hth0 : 0 ≤ eth := by
          have h1 := ta
          unfold tellsC at h1
          rw [Bool.and_eq_true] at h1
          obtain ⟨-, ⟨-, -, -, t1, -⟩, -⟩ := may_sizes' h1.1
          dsimp only at t1
          omega
        obtain ⟨th2, rfl⟩ := Int.eq_ofNat_of_zero_le hth0
        obtain ⟨w1', w2', w3'⟩ := w_ats ta
        have l0 := HE7.out.be.cell 0 (v := .int .u8 ek) rfl
        have l1 := HE7.out.be.cell 1 (v := .int .i64 (th2 : Int)) rfl
        have l2 := HE7.out.be.cell 2 (v := .int .i64 etx) rfl
        have l3 := HE7.out.be.cell 3 (v := .int .i64 ea) rfl
        have l4 := HE7.out.be.cell 4 (v := .int .i64 ev') rfl
        have l5 := HE7.out.be.cell 5 (v := .int .i64 ex) rfl
        have l6 := HE7.out.be.cell 6 (v := .int .u8 ewhy) rfl
        have HKN := hid (qknows_any T V S c ek etx ea ev' ex ewhy th2 ea.toNat C W7 HE7.out.bc w1' w2' w3')
        dsimp only [evA] at HKN
        clear ta hth0 w1' w2' w3' x0 x1 x2 x3 x4 x5 x6 y0 y1 y2 y3 y4 y5 y6
        go_wp2_with fail
        refine HKN.out.mono ?_
        rintro e' W8 ⟨rfl, hC8, hT8⟩
        have hne := HE7.out.ne
        have hE8 := hT8.blk (k := W.heap.size) (by simp only [List.mem_cons, List.not_mem_nil, or_false]; omega) HE7.out.bz
        have hL8 := hT8.blk (k := L) (by simp only [List.mem_cons, List.not_mem_nil, or_false]; omega) HE7.out.be
        have hR8 : RRd W8 b s zr.at_ zr.err := Turn.blk hT8 (by simp only [List.mem_cons, List.not_mem_nil, or_false]; omega) HE7.out.rd
        have l0 := hL8.cell 0 (v := .int .u8 ek) rfl
        have l1 := hL8.cell 1 (v := .int .i64 (th2 : Int)) rfl
        have l2 := hL8.cell 2 (v := .int .i64 etx) rfl
        have l3 := hL8.cell 3 (v := .int .i64 ea) rfl
        have l4 := hL8.cell 4 (v := .int .i64 ev') rfl
        have l5 := hL8.cell 5 (v := .int .i64 ex) rfl
        have l6 := hL8.cell 6 (v := .int .u8 ewhy) rfl
        have x0 := hE8.cell 0 (v := .int .u8 0) rfl
        have y0 := hE8.free 0
        have x1 := hE8.cell 1 (v := .int .i64 0) rfl
        have y1 := hE8.free 1
        have x2 := hE8.cell 2 (v := .int .i64 0) rfl
        have y2 := hE8.free 2
        have x3 := hE8.cell 3 (v := .int .i64 0) rfl
        have y3 := hE8.free 3
        have x4 := hE8.cell 4 (v := .int .i64 0) rfl
        have y4 := hE8.free 4
        have x5 := hE8.cell 5 (v := .int .i64 0) rfl
        have y5 := hE8.free 5
        have x6 := hE8.cell 6 (v := .int .u8 0) rfl
        have y6 := hE8.free 6
        have HE8 := hid hE8
        have HR8 := hid hR8
        have HC8 := hid hC8
        have HT8 := hid hT8
        have HNE := hid hne
        clear hE8 hL8 hR8 hC8 hT8 hne
        go_wp2_with fail
        have hF := dset7 HE8.out (.int .u8 ek) (.int .i64 (th2 : Int)) (.int .i64 etx) (.int .i64 ea) (.int .i64 ev') (.int .i64 ex) (.int .u8 ewhy)
        have q0 := hF.cell 0 (v := .int .u8 ek) rfl
        have q1 := hF.cell 1 (v := .int .i64 (th2 : Int)) rfl
        have q2 := hF.cell 2 (v := .int .i64 etx) rfl
        have q3 := hF.cell 3 (v := .int .i64 ea) rfl
        have q4 := hF.cell 4 (v := .int .i64 ev') rfl
        have q5 := hF.cell 5 (v := .int .i64 ex) rfl
        have q6 := hF.cell 6 (v := .int .u8 ewhy) rfl
        exact bodyPost_ret (v := .tuple #[.agg #[.int .u8 ek, .int .i64 (th2 : Int), .int .i64 etx, .int .i64 ea, .int .i64 ev', .int .i64 ex, .int .u8 ewhy], .int .i64 0]) (by simp [results, Tryd.results23, go_sem, q0, q1, q2, q3, q4, q5, q6]) rfl (by
          rw [HQ.out]
          have hrc : readC T V S c r0 = (⟨ek, (th2 : Int), etx, ea, ev', ex, ewhy⟩, 0, zr, knowsC c ⟨ek, (th2 : Int), etx, ea, ev', ex, ewhy⟩) := by
            unfold readC
            rw [HX.out]
            dsimp only
            rw [if_neg (by rw [he]; decide)]
          unfold RReadP
          rw [hrc]
          have hne := HNE.out
          refine ⟨rfl, dfar7 HC8.out (by omega) _ _ _ _ _ _ _, dfar7 HR8.out (by omega) _ _ _ _ _ _ _, ?_⟩
          exact dturn7 ((HE7.out.tu.mono (by simp)).trans (HT8.out.mono (by simp))) (Nat.le_refl _) _ _ _ _ _ _ _)
      · have g1 : ((zr.err : Int) != 0) = true := by rw [bne_iff_ne]; omega
        go_wp2_with fail
        have hF := dset7 HE7.out.bz (.int .u8 0) (.int .i64 0) (.int .i64 0) (.int .i64 0) (.int .i64 0) (.int .i64 0) (.int .u8 0)
        have q0 := hF.cell 0 (v := .int .u8 0) rfl
        have q1 := hF.cell 1 (v := .int .i64 0) rfl
        have q2 := hF.cell 2 (v := .int .i64 0) rfl
        have q3 := hF.cell 3 (v := .int .i64 0) rfl
        have q4 := hF.cell 4 (v := .int .i64 0) rfl
        have q5 := hF.cell 5 (v := .int .i64 0) rfl
        have q6 := hF.cell 6 (v := .int .u8 0) rfl
        exact bodyPost_ret (v := .tuple #[.agg #[.int .u8 0, .int .i64 0, .int .i64 0, .int .i64 0, .int .i64 0, .int .i64 0, .int .u8 0], .int .i64 (zr.err : Int)]) (by simp [results, Tryd.results23, go_sem, q0, q1, q2, q3, q4, q5, q6]) rfl (by
          rw [HQ.out]
          have hrc : readC T V S c r0 = (⟨0, 0, 0, 0, 0, 0, 0⟩, zr.err, zr, c) := by
            unfold readC
            rw [HX.out]
            dsimp only
            rw [if_pos he]
          unfold RReadP
          rw [hrc]
          have hne := HE7.out.ne
          refine ⟨rfl, dfar7 HE7.out.bc (by omega) _ _ _ _ _ _ _, dfar7 HE7.out.rd (by omega) _ _ _ _ _ _ _, ?_⟩
          exact dturn7 (HE7.out.tu.mono (by simp)) (Nat.le_refl _) _ _ _ _ _ _ _)
    · subst hk
      have HT1 := hid (HS.out.told (most := 5) HSZ.out (by decide))
      have hle1 := numR_le y2 (5)
      obtain ⟨b1, hb1⟩ : ∃ q, q = numR y2 (5) := ⟨_, rfl⟩
      rw [← hb1] at HT1 hle1
      have HEQ1 := hid hb1.symm
      have HLE1 := hid hle1
      clear hb1 hle1
      have j2 : IntKind.i64.wrap ((b1.1 : Int) + 1) = (b1.1 : Int) + 1 := IntWalk.i64_in _ (by have := HLE1.out; omega)
      have j3 : IntKind.u8.wrap ((b1.1 : Int) + 1) = (b1.1 : Int) + 1 := by have := HLE1.out; simp only [IntKind.wrap, IntKind.bits, IntKind.signed]; simp; omega
      go_wp2_with fail
      refine HT1.out.mono ?_
      rintro e' w4 ⟨rfl, hS⟩
      have c2 := hS.be.cell 6 (v := .int .u8 0) rfl
      have z2 := hS.be.free 6
      have HS5 := hid (hS.set 6 (.int .u8 ((b1.1 : Int) + 1)) (e2 := ⟨10, (th : Int), 0, 0, 0, 0, (b1.1 : Int) + 1⟩) rfl)
      clear hS HT1 HS
      have q6 := HS5.out.be.cell 6 (v := .int .u8 ((b1.1 : Int) + 1)) rfl
      by_cases hn : (b1.1 : Int) + 1 = 6
      · have g1 : ((b1.1 : Int) + 1 != 6) = false := by simp [hn]
        have g2 : decide ((b1.1 : Int) + 1 = 6) = true := by simp [hn]
        have HNN := hid hn
        clear hn
        obtain ⟨ev, hev⟩ : ∃ ev : Ev, ev = ⟨10, (th : Int), 0, 0, 0, 0, (b1.1 : Int) + 1⟩ := ⟨_, rfl⟩
        obtain ⟨zr, hzr⟩ : ∃ zr : Rdr, zr = b1.2 := ⟨_, rfl⟩
        have HX : Hid (lineR T V S c r0 = (ev, zr)) := hid (by
          rw [HRC.out, hev, hzr, ← HEQ1.out]
          have hn0 : (numR y2 5).1 + 1 = 6 := by rw [HEQ1.out]; have := HNN.out; omega
          unfold lineX; simp only [if_pos hn0]; simp)
        have HE : Hid (RSt T V S c s W C b L (w4.setCell ⟨L, 6, none⟩ (.int .u8 ((b1.1 : Int) + 1))) zr ev) := hid (by rw [hev, hzr]; exact HS5.out)
        have HWR := hid (qwrong_any b s zr.at_ zr.err _ HE.out.rd)
        clear hev hzr HS5
        try clear HKE
        go_wp2_with fail
        refine HWR.out.mono ?_
        rintro e' W7 ⟨rfl, hb7⟩
        have HE7 := hid (HE.out.below hb7)
        have x0 := HE7.out.bz.cell 0 (v := .int .u8 0) rfl
        have x1 := HE7.out.bz.cell 1 (v := .int .i64 0) rfl
        have x2 := HE7.out.bz.cell 2 (v := .int .i64 0) rfl
        have x3 := HE7.out.bz.cell 3 (v := .int .i64 0) rfl
        have x4 := HE7.out.bz.cell 4 (v := .int .i64 0) rfl
        have x5 := HE7.out.bz.cell 5 (v := .int .i64 0) rfl
        have x6 := HE7.out.bz.cell 6 (v := .int .u8 0) rfl
        have y0 := HE7.out.bz.free 0
        have y1 := HE7.out.bz.free 1
        have y2 := HE7.out.bz.free 2
        have y3 := HE7.out.bz.free 3
        have y4 := HE7.out.bz.free 4
        have y5 := HE7.out.bz.free 5
        have y6 := HE7.out.bz.free 6
        clear hb7 HE HWR
        by_cases he : zr.err = 0
        · obtain ⟨ta, -, -, -⟩ := read_anew (T := T) (V := V) (S := S) (c := c) (s := byt s) (at_ := at_) (e := ev) (r' := zr) ⟨HTV.out.1.1, HTV.out.1.2, HTV.out.2.1.1, HTV.out.2.1.2, HTV.out.2.2.1, HTV.out.2.2.2⟩ HOK.out (byt_lt s) (by rw [← HR0.out]; exact HX.out) he
          have g1 : ((zr.err : Int) != 0) = false := by rw [he]; rfl
          obtain ⟨ek, eth, etx, ea, ev', ex, ewhy⟩ := ev
          have hth0 : 0 ≤ eth := by
            have h1 := ta
            unfold tellsC at h1
            rw [Bool.and_eq_true] at h1
            obtain ⟨-, ⟨-, -, -, t1, -⟩, -⟩ := may_sizes' h1.1
            dsimp only at t1
            omega
          obtain ⟨th2, rfl⟩ := Int.eq_ofNat_of_zero_le hth0
          obtain ⟨w1', w2', w3'⟩ := w_ats ta
          have l0 := HE7.out.be.cell 0 (v := .int .u8 ek) rfl
          have l1 := HE7.out.be.cell 1 (v := .int .i64 (th2 : Int)) rfl
          have l2 := HE7.out.be.cell 2 (v := .int .i64 etx) rfl
          have l3 := HE7.out.be.cell 3 (v := .int .i64 ea) rfl
          have l4 := HE7.out.be.cell 4 (v := .int .i64 ev') rfl
          have l5 := HE7.out.be.cell 5 (v := .int .i64 ex) rfl
          have l6 := HE7.out.be.cell 6 (v := .int .u8 ewhy) rfl
          have HKN := hid (qknows_any T V S c ek etx ea ev' ex ewhy th2 ea.toNat C W7 HE7.out.bc w1' w2' w3')
          dsimp only [evA] at HKN
          clear ta hth0 w1' w2' w3' x0 x1 x2 x3 x4 x5 x6 y0 y1 y2 y3 y4 y5 y6
          go_wp2_with fail
          refine HKN.out.mono ?_
          rintro e' W8 ⟨rfl, hC8, hT8⟩
          have hne := HE7.out.ne
          have hE8 := hT8.blk (k := W.heap.size) (by simp only [List.mem_cons, List.not_mem_nil, or_false]; omega) HE7.out.bz
          have hL8 := hT8.blk (k := L) (by simp only [List.mem_cons, List.not_mem_nil, or_false]; omega) HE7.out.be
          have hR8 : RRd W8 b s zr.at_ zr.err := Turn.blk hT8 (by simp only [List.mem_cons, List.not_mem_nil, or_false]; omega) HE7.out.rd
          have l0 := hL8.cell 0 (v := .int .u8 ek) rfl
          have l1 := hL8.cell 1 (v := .int .i64 (th2 : Int)) rfl
          have l2 := hL8.cell 2 (v := .int .i64 etx) rfl
          have l3 := hL8.cell 3 (v := .int .i64 ea) rfl
          have l4 := hL8.cell 4 (v := .int .i64 ev') rfl
          have l5 := hL8.cell 5 (v := .int .i64 ex) rfl
          have l6 := hL8.cell 6 (v := .int .u8 ewhy) rfl
          have x0 := hE8.cell 0 (v := .int .u8 0) rfl
          have y0 := hE8.free 0
          have x1 := hE8.cell 1 (v := .int .i64 0) rfl
          have y1 := hE8.free 1
          have x2 := hE8.cell 2 (v := .int .i64 0) rfl
          have y2 := hE8.free 2
          have x3 := hE8.cell 3 (v := .int .i64 0) rfl
          have y3 := hE8.free 3
          have x4 := hE8.cell 4 (v := .int .i64 0) rfl
          have y4 := hE8.free 4
          have x5 := hE8.cell 5 (v := .int .i64 0) rfl
          have y5 := hE8.free 5
          have x6 := hE8.cell 6 (v := .int .u8 0) rfl
          have y6 := hE8.free 6
          have HE8 := hid hE8
          have HR8 := hid hR8
          have HC8 := hid hC8
          have HT8 := hid hT8
          have HNE := hid hne
          clear hE8 hL8 hR8 hC8 hT8 hne
          go_wp2_with fail
          have hF := dset7 HE8.out (.int .u8 ek) (.int .i64 (th2 : Int)) (.int .i64 etx) (.int .i64 ea) (.int .i64 ev') (.int .i64 ex) (.int .u8 ewhy)
          have q0 := hF.cell 0 (v := .int .u8 ek) rfl
          have q1 := hF.cell 1 (v := .int .i64 (th2 : Int)) rfl
          have q2 := hF.cell 2 (v := .int .i64 etx) rfl
          have q3 := hF.cell 3 (v := .int .i64 ea) rfl
          have q4 := hF.cell 4 (v := .int .i64 ev') rfl
          have q5 := hF.cell 5 (v := .int .i64 ex) rfl
          have q6 := hF.cell 6 (v := .int .u8 ewhy) rfl
          exact bodyPost_ret (v := .tuple #[.agg #[.int .u8 ek, .int .i64 (th2 : Int), .int .i64 etx, .int .i64 ea, .int .i64 ev', .int .i64 ex, .int .u8 ewhy], .int .i64 0]) (by simp [results, Tryd.results23, go_sem, q0, q1, q2, q3, q4, q5, q6]) rfl (by
            rw [HQ.out]
            have hrc : readC T V S c r0 = (⟨ek, (th2 : Int), etx, ea, ev', ex, ewhy⟩, 0, zr, knowsC c ⟨ek, (th2 : Int), etx, ea, ev', ex, ewhy⟩) := by
              unfold readC
              rw [HX.out]
              dsimp only
              rw [if_neg (by rw [he]; decide)]
            unfold RReadP
            rw [hrc]
            have hne := HNE.out
            refine ⟨rfl, dfar7 HC8.out (by omega) _ _ _ _ _ _ _, dfar7 HR8.out (by omega) _ _ _ _ _ _ _, ?_⟩
            exact dturn7 ((HE7.out.tu.mono (by simp)).trans (HT8.out.mono (by simp))) (Nat.le_refl _) _ _ _ _ _ _ _)
        · have g1 : ((zr.err : Int) != 0) = true := by rw [bne_iff_ne]; omega
          go_wp2_with fail
          have hF := dset7 HE7.out.bz (.int .u8 0) (.int .i64 0) (.int .i64 0) (.int .i64 0) (.int .i64 0) (.int .i64 0) (.int .u8 0)
          have q0 := hF.cell 0 (v := .int .u8 0) rfl
          have q1 := hF.cell 1 (v := .int .i64 0) rfl
          have q2 := hF.cell 2 (v := .int .i64 0) rfl
          have q3 := hF.cell 3 (v := .int .i64 0) rfl
          have q4 := hF.cell 4 (v := .int .i64 0) rfl
          have q5 := hF.cell 5 (v := .int .i64 0) rfl
          have q6 := hF.cell 6 (v := .int .u8 0) rfl
          exact bodyPost_ret (v := .tuple #[.agg #[.int .u8 0, .int .i64 0, .int .i64 0, .int .i64 0, .int .i64 0, .int .i64 0, .int .u8 0], .int .i64 (zr.err : Int)]) (by simp [results, Tryd.results23, go_sem, q0, q1, q2, q3, q4, q5, q6]) rfl (by
            rw [HQ.out]
            have hrc : readC T V S c r0 = (⟨0, 0, 0, 0, 0, 0, 0⟩, zr.err, zr, c) := by
              unfold readC
              rw [HX.out]
              dsimp only
              rw [if_pos he]
            unfold RReadP
            rw [hrc]
            have hne := HE7.out.ne
            refine ⟨rfl, dfar7 HE7.out.bc (by omega) _ _ _ _ _ _ _, dfar7 HE7.out.rd (by omega) _ _ _ _ _ _ _, ?_⟩
            exact dturn7 (HE7.out.tu.mono (by simp)) (Nat.le_refl _) _ _ _ _ _ _ _)
      · have g1 : ((b1.1 : Int) + 1 != 6) = true := by simp [hn]
        have g2 : decide ((b1.1 : Int) + 1 = 6) = false := by simp [hn]
        have HNN := hid hn
        have k2 := HS5.out.bc.cell 2 (v := .int .i64 S) rfl
        have j1 : IntKind.i64.wrap (S - 1) = S - 1 := IntWalk.i64_in _ (by have := HTV.out; omega)
        clear hn
        have HT2 := hid (HS5.out.told (most := (S - 1).toNat) HSZ.out (by have := HTV.out; omega))
        rw [tn (show 0 ≤ S - 1 by have := HTV.out; omega)] at HT2
        have hle2 := numR_le b1.2 ((S - 1).toNat)
        obtain ⟨b2, hb2⟩ : ∃ q, q = numR b1.2 ((S - 1).toNat) := ⟨_, rfl⟩
        rw [← hb2] at HT2 hle2
        have HEQ2 := hid hb2.symm
        have HLE2 := hid hle2
        clear hb2 hle2
        go_wp2_with fail
        refine HT2.out.mono ?_
        rintro e' w6 ⟨rfl, hS⟩
        have c2 := hS.be.cell 3 (v := .int .i64 0) rfl
        have z2 := hS.be.free 3
        have HS7 := hid (hS.set 3 (.int .i64 (b2.1 : Int)) (e2 := ⟨10, (th : Int), 0, (b2.1 : Int), 0, 0, (b1.1 : Int) + 1⟩) rfl)
        clear hS HT2 HS5
        obtain ⟨ev, hev⟩ : ∃ ev : Ev, ev = ⟨10, (th : Int), 0, (b2.1 : Int), 0, 0, (b1.1 : Int) + 1⟩ := ⟨_, rfl⟩
        obtain ⟨zr, hzr⟩ : ∃ zr : Rdr, zr = b2.2 := ⟨_, rfl⟩
        have HX : Hid (lineR T V S c r0 = (ev, zr)) := hid (by
          rw [HRC.out, hev, hzr, ← HEQ2.out, ← HEQ1.out]
          have hn0 : ¬ (numR y2 5).1 + 1 = 6 := by rw [HEQ1.out]; have := HNN.out; omega
          unfold lineX; simp only [if_neg hn0]; simp)
        have HE : Hid (RSt T V S c s W C b L (w6.setCell ⟨L, 3, none⟩ (.int .i64 (b2.1 : Int))) zr ev) := hid (by rw [hev, hzr]; exact HS7.out)
        have HWR := hid (qwrong_any b s zr.at_ zr.err _ HE.out.rd)
        clear hev hzr HS7
        try clear HKE
        go_wp2_with fail
        refine HWR.out.mono ?_
        rintro e' W7 ⟨rfl, hb7⟩
        have HE7 := hid (HE.out.below hb7)
        have x0 := HE7.out.bz.cell 0 (v := .int .u8 0) rfl
        have x1 := HE7.out.bz.cell 1 (v := .int .i64 0) rfl
        have x2 := HE7.out.bz.cell 2 (v := .int .i64 0) rfl
        have x3 := HE7.out.bz.cell 3 (v := .int .i64 0) rfl
        have x4 := HE7.out.bz.cell 4 (v := .int .i64 0) rfl
        have x5 := HE7.out.bz.cell 5 (v := .int .i64 0) rfl
        have x6 := HE7.out.bz.cell 6 (v := .int .u8 0) rfl
        have y0 := HE7.out.bz.free 0
        have y1 := HE7.out.bz.free 1
        have y2 := HE7.out.bz.free 2
        have y3 := HE7.out.bz.free 3
        have y4 := HE7.out.bz.free 4
        have y5 := HE7.out.bz.free 5
        have y6 := HE7.out.bz.free 6
        clear hb7 HE HWR
        by_cases he : zr.err = 0
        · obtain ⟨ta, -, -, -⟩ := read_anew (T := T) (V := V) (S := S) (c := c) (s := byt s) (at_ := at_) (e := ev) (r' := zr) ⟨HTV.out.1.1, HTV.out.1.2, HTV.out.2.1.1, HTV.out.2.1.2, HTV.out.2.2.1, HTV.out.2.2.2⟩ HOK.out (byt_lt s) (by rw [← HR0.out]; exact HX.out) he
          have g1 : ((zr.err : Int) != 0) = false := by rw [he]; rfl
          obtain ⟨ek, eth, etx, ea, ev', ex, ewhy⟩ := ev
          have hth0 : 0 ≤ eth := by
            have h1 := ta
            unfold tellsC at h1
            rw [Bool.and_eq_true] at h1
            obtain ⟨-, ⟨-, -, -, t1, -⟩, -⟩ := may_sizes' h1.1
            dsimp only at t1
            omega
          obtain ⟨th2, rfl⟩ := Int.eq_ofNat_of_zero_le hth0
          obtain ⟨w1', w2', w3'⟩ := w_ats ta
          have l0 := HE7.out.be.cell 0 (v := .int .u8 ek) rfl
          have l1 := HE7.out.be.cell 1 (v := .int .i64 (th2 : Int)) rfl
          have l2 := HE7.out.be.cell 2 (v := .int .i64 etx) rfl
          have l3 := HE7.out.be.cell 3 (v := .int .i64 ea) rfl
          have l4 := HE7.out.be.cell 4 (v := .int .i64 ev') rfl
          have l5 := HE7.out.be.cell 5 (v := .int .i64 ex) rfl
          have l6 := HE7.out.be.cell 6 (v := .int .u8 ewhy) rfl
          have HKN := hid (qknows_any T V S c ek etx ea ev' ex ewhy th2 ea.toNat C W7 HE7.out.bc w1' w2' w3')
          dsimp only [evA] at HKN
          clear ta hth0 w1' w2' w3' x0 x1 x2 x3 x4 x5 x6 y0 y1 y2 y3 y4 y5 y6
          go_wp2_with fail
          refine HKN.out.mono ?_
          rintro e' W8 ⟨rfl, hC8, hT8⟩
          have hne := HE7.out.ne
          have hE8 := hT8.blk (k := W.heap.size) (by simp only [List.mem_cons, List.not_mem_nil, or_false]; omega) HE7.out.bz
          have hL8 := hT8.blk (k := L) (by simp only [List.mem_cons, List.not_mem_nil, or_false]; omega) HE7.out.be
          have hR8 : RRd W8 b s zr.at_ zr.err := Turn.blk hT8 (by simp only [List.mem_cons, List.not_mem_nil, or_false]; omega) HE7.out.rd
          have l0 := hL8.cell 0 (v := .int .u8 ek) rfl
          have l1 := hL8.cell 1 (v := .int .i64 (th2 : Int)) rfl
          have l2 := hL8.cell 2 (v := .int .i64 etx) rfl
          have l3 := hL8.cell 3 (v := .int .i64 ea) rfl
          have l4 := hL8.cell 4 (v := .int .i64 ev') rfl
          have l5 := hL8.cell 5 (v := .int .i64 ex) rfl
          have l6 := hL8.cell 6 (v := .int .u8 ewhy) rfl
          have x0 := hE8.cell 0 (v := .int .u8 0) rfl
          have y0 := hE8.free 0
          have x1 := hE8.cell 1 (v := .int .i64 0) rfl
          have y1 := hE8.free 1
          have x2 := hE8.cell 2 (v := .int .i64 0) rfl
          have y2 := hE8.free 2
          have x3 := hE8.cell 3 (v := .int .i64 0) rfl
          have y3 := hE8.free 3
          have x4 := hE8.cell 4 (v := .int .i64 0) rfl
          have y4 := hE8.free 4
          have x5 := hE8.cell 5 (v := .int .i64 0) rfl
          have y5 := hE8.free 5
          have x6 := hE8.cell 6 (v := .int .u8 0) rfl
          have y6 := hE8.free 6
          have HE8 := hid hE8
          have HR8 := hid hR8
          have HC8 := hid hC8
          have HT8 := hid hT8
          have HNE := hid hne
          clear hE8 hL8 hR8 hC8 hT8 hne
          go_wp2_with fail
          have hF := dset7 HE8.out (.int .u8 ek) (.int .i64 (th2 : Int)) (.int .i64 etx) (.int .i64 ea) (.int .i64 ev') (.int .i64 ex) (.int .u8 ewhy)
          have q0 := hF.cell 0 (v := .int .u8 ek) rfl
          have q1 := hF.cell 1 (v := .int .i64 (th2 : Int)) rfl
          have q2 := hF.cell 2 (v := .int .i64 etx) rfl
          have q3 := hF.cell 3 (v := .int .i64 ea) rfl
          have q4 := hF.cell 4 (v := .int .i64 ev') rfl
          have q5 := hF.cell 5 (v := .int .i64 ex) rfl
          have q6 := hF.cell 6 (v := .int .u8 ewhy) rfl
          exact bodyPost_ret (v := .tuple #[.agg #[.int .u8 ek, .int .i64 (th2 : Int), .int .i64 etx, .int .i64 ea, .int .i64 ev', .int .i64 ex, .int .u8 ewhy], .int .i64 0]) (by simp [results, Tryd.results23, go_sem, q0, q1, q2, q3, q4, q5, q6]) rfl (by
            rw [HQ.out]
            have hrc : readC T V S c r0 = (⟨ek, (th2 : Int), etx, ea, ev', ex, ewhy⟩, 0, zr, knowsC c ⟨ek, (th2 : Int), etx, ea, ev', ex, ewhy⟩) := by
              unfold readC
              rw [HX.out]
              dsimp only
              rw [if_neg (by rw [he]; decide)]
            unfold RReadP
            rw [hrc]
            have hne := HNE.out
            refine ⟨rfl, dfar7 HC8.out (by omega) _ _ _ _ _ _ _, dfar7 HR8.out (by omega) _ _ _ _ _ _ _, ?_⟩
            exact dturn7 ((HE7.out.tu.mono (by simp)).trans (HT8.out.mono (by simp))) (Nat.le_refl _) _ _ _ _ _ _ _)
        · have g1 : ((zr.err : Int) != 0) = true := by rw [bne_iff_ne]; omega
          go_wp2_with fail
          have hF := dset7 HE7.out.bz (.int .u8 0) (.int .i64 0) (.int .i64 0) (.int .i64 0) (.int .i64 0) (.int .i64 0) (.int .u8 0)
          have q0 := hF.cell 0 (v := .int .u8 0) rfl
          have q1 := hF.cell 1 (v := .int .i64 0) rfl
          have q2 := hF.cell 2 (v := .int .i64 0) rfl
          have q3 := hF.cell 3 (v := .int .i64 0) rfl
          have q4 := hF.cell 4 (v := .int .i64 0) rfl
          have q5 := hF.cell 5 (v := .int .i64 0) rfl
          have q6 := hF.cell 6 (v := .int .u8 0) rfl
          exact bodyPost_ret (v := .tuple #[.agg #[.int .u8 0, .int .i64 0, .int .i64 0, .int .i64 0, .int .i64 0, .int .i64 0, .int .u8 0], .int .i64 (zr.err : Int)]) (by simp [results, Tryd.results23, go_sem, q0, q1, q2, q3, q4, q5, q6]) rfl (by
            rw [HQ.out]
            have hrc : readC T V S c r0 = (⟨0, 0, 0, 0, 0, 0, 0⟩, zr.err, zr, c) := by
              unfold readC
              rw [HX.out]
              dsimp only
              rw [if_pos he]
            unfold RReadP
            rw [hrc]
            have hne := HE7.out.ne
            refine ⟨rfl, dfar7 HE7.out.bc (by omega) _ _ _ _ _ _ _, dfar7 HE7.out.rd (by omega) _ _ _ _ _ _ _, ?_⟩
            exact dturn7 (HE7.out.tu.mono (by simp)) (Nat.le_refl _) _ _ _ _ _ _ _)
    · subst hk
      have HT1 := hid (HS.out.told (most := (S - 1).toNat) HSZ.out (by have := HTV.out; omega))
      rw [tn (show 0 ≤ S - 1 by have := HTV.out; omega)] at HT1
      have hle1 := numR_le y2 ((S - 1).toNat)
      obtain ⟨b1, hb1⟩ : ∃ q, q = numR y2 ((S - 1).toNat) := ⟨_, rfl⟩
      rw [← hb1] at HT1 hle1
      have HEQ1 := hid hb1.symm
      have HLE1 := hid hle1
      clear hb1 hle1
      have k2 := HS.out.bc.cell 2 (v := .int .i64 S) rfl
      have j1 : IntKind.i64.wrap (S - 1) = S - 1 := IntWalk.i64_in _ (by have := HTV.out; omega)
      go_wp2_with fail
      refine HT1.out.mono ?_
      rintro e' w4 ⟨rfl, hS⟩
      have c2 := hS.be.cell 3 (v := .int .i64 0) rfl
      have z2 := hS.be.free 3
      have HS5 := hid (hS.set 3 (.int .i64 (b1.1 : Int)) (e2 := ⟨11, (th : Int), 0, (b1.1 : Int), 0, 0, 0⟩) rfl)
      clear hS HT1 HS
      obtain ⟨ev, hev⟩ : ∃ ev : Ev, ev = ⟨11, (th : Int), 0, (b1.1 : Int), 0, 0, 0⟩ := ⟨_, rfl⟩
      obtain ⟨zr, hzr⟩ : ∃ zr : Rdr, zr = b1.2 := ⟨_, rfl⟩
      have HX : Hid (lineR T V S c r0 = (ev, zr)) := hid (by
        rw [HRC.out, hev, hzr, ← HEQ1.out]
        first | rfl | (unfold lineX; simp))
      have HE : Hid (RSt T V S c s W C b L (w4.setCell ⟨L, 3, none⟩ (.int .i64 (b1.1 : Int))) zr ev) := hid (by rw [hev, hzr]; exact HS5.out)
      have HWR := hid (qwrong_any b s zr.at_ zr.err _ HE.out.rd)
      clear hev hzr HS5
      try clear HKE
      go_wp2_with fail
      refine HWR.out.mono ?_
      rintro e' W7 ⟨rfl, hb7⟩
      have HE7 := hid (HE.out.below hb7)
      have x0 := HE7.out.bz.cell 0 (v := .int .u8 0) rfl
      have x1 := HE7.out.bz.cell 1 (v := .int .i64 0) rfl
      have x2 := HE7.out.bz.cell 2 (v := .int .i64 0) rfl
      have x3 := HE7.out.bz.cell 3 (v := .int .i64 0) rfl
      have x4 := HE7.out.bz.cell 4 (v := .int .i64 0) rfl
      have x5 := HE7.out.bz.cell 5 (v := .int .i64 0) rfl
      have x6 := HE7.out.bz.cell 6 (v := .int .u8 0) rfl
      have y0 := HE7.out.bz.free 0
      have y1 := HE7.out.bz.free 1
      have y2 := HE7.out.bz.free 2
      have y3 := HE7.out.bz.free 3
      have y4 := HE7.out.bz.free 4
      have y5 := HE7.out.bz.free 5
      have y6 := HE7.out.bz.free 6
      clear hb7 HE HWR
      by_cases he : zr.err = 0
      · obtain ⟨ta, -, -, -⟩ := read_anew (T := T) (V := V) (S := S) (c := c) (s := byt s) (at_ := at_) (e := ev) (r' := zr) ⟨HTV.out.1.1, HTV.out.1.2, HTV.out.2.1.1, HTV.out.2.1.2, HTV.out.2.2.1, HTV.out.2.2.2⟩ HOK.out (byt_lt s) (by rw [← HR0.out]; exact HX.out) he
        have g1 : ((zr.err : Int) != 0) = false := by rw [he]; rfl
        obtain ⟨ek, eth, etx, ea, ev', ex, ewhy⟩ := ev
        have hth0 : 0 ≤ eth := by
          have h1 := ta
          unfold tellsC at h1
          rw [Bool.and_eq_true] at h1
          obtain ⟨-, ⟨-, -, -, t1, -⟩, -⟩ := may_sizes' h1.1
          dsimp only at t1
          omega
        obtain ⟨th2, rfl⟩ := Int.eq_ofNat_of_zero_le hth0
        obtain ⟨w1', w2', w3'⟩ := w_ats ta
        have l0 := HE7.out.be.cell 0 (v := .int .u8 ek) rfl
        have l1 := HE7.out.be.cell 1 (v := .int .i64 (th2 : Int)) rfl
        have l2 := HE7.out.be.cell 2 (v := .int .i64 etx) rfl
        have l3 := HE7.out.be.cell 3 (v := .int .i64 ea) rfl
        have l4 := HE7.out.be.cell 4 (v := .int .i64 ev') rfl
        have l5 := HE7.out.be.cell 5 (v := .int .i64 ex) rfl
        have l6 := HE7.out.be.cell 6 (v := .int .u8 ewhy) rfl
        have HKN := hid (qknows_any T V S c ek etx ea ev' ex ewhy th2 ea.toNat C W7 HE7.out.bc w1' w2' w3')
        dsimp only [evA] at HKN
        clear ta hth0 w1' w2' w3' x0 x1 x2 x3 x4 x5 x6 y0 y1 y2 y3 y4 y5 y6
        go_wp2_with fail
        refine HKN.out.mono ?_
        rintro e' W8 ⟨rfl, hC8, hT8⟩
        have hne := HE7.out.ne
        have hE8 := hT8.blk (k := W.heap.size) (by simp only [List.mem_cons, List.not_mem_nil, or_false]; omega) HE7.out.bz
        have hL8 := hT8.blk (k := L) (by simp only [List.mem_cons, List.not_mem_nil, or_false]; omega) HE7.out.be
        have hR8 : RRd W8 b s zr.at_ zr.err := Turn.blk hT8 (by simp only [List.mem_cons, List.not_mem_nil, or_false]; omega) HE7.out.rd
        have l0 := hL8.cell 0 (v := .int .u8 ek) rfl
        have l1 := hL8.cell 1 (v := .int .i64 (th2 : Int)) rfl
        have l2 := hL8.cell 2 (v := .int .i64 etx) rfl
        have l3 := hL8.cell 3 (v := .int .i64 ea) rfl
        have l4 := hL8.cell 4 (v := .int .i64 ev') rfl
        have l5 := hL8.cell 5 (v := .int .i64 ex) rfl
        have l6 := hL8.cell 6 (v := .int .u8 ewhy) rfl
        have x0 := hE8.cell 0 (v := .int .u8 0) rfl
        have y0 := hE8.free 0
        have x1 := hE8.cell 1 (v := .int .i64 0) rfl
        have y1 := hE8.free 1
        have x2 := hE8.cell 2 (v := .int .i64 0) rfl
        have y2 := hE8.free 2
        have x3 := hE8.cell 3 (v := .int .i64 0) rfl
        have y3 := hE8.free 3
        have x4 := hE8.cell 4 (v := .int .i64 0) rfl
        have y4 := hE8.free 4
        have x5 := hE8.cell 5 (v := .int .i64 0) rfl
        have y5 := hE8.free 5
        have x6 := hE8.cell 6 (v := .int .u8 0) rfl
        have y6 := hE8.free 6
        have HE8 := hid hE8
        have HR8 := hid hR8
        have HC8 := hid hC8
        have HT8 := hid hT8
        have HNE := hid hne
        clear hE8 hL8 hR8 hC8 hT8 hne
        go_wp2_with fail
        have hF := dset7 HE8.out (.int .u8 ek) (.int .i64 (th2 : Int)) (.int .i64 etx) (.int .i64 ea) (.int .i64 ev') (.int .i64 ex) (.int .u8 ewhy)
        have q0 := hF.cell 0 (v := .int .u8 ek) rfl
        have q1 := hF.cell 1 (v := .int .i64 (th2 : Int)) rfl
        have q2 := hF.cell 2 (v := .int .i64 etx) rfl
        have q3 := hF.cell 3 (v := .int .i64 ea) rfl
        have q4 := hF.cell 4 (v := .int .i64 ev') rfl
        have q5 := hF.cell 5 (v := .int .i64 ex) rfl
        have q6 := hF.cell 6 (v := .int .u8 ewhy) rfl
        exact bodyPost_ret (v := .tuple #[.agg #[.int .u8 ek, .int .i64 (th2 : Int), .int .i64 etx, .int .i64 ea, .int .i64 ev', .int .i64 ex, .int .u8 ewhy], .int .i64 0]) (by simp [results, Tryd.results23, go_sem, q0, q1, q2, q3, q4, q5, q6]) rfl (by
          rw [HQ.out]
          have hrc : readC T V S c r0 = (⟨ek, (th2 : Int), etx, ea, ev', ex, ewhy⟩, 0, zr, knowsC c ⟨ek, (th2 : Int), etx, ea, ev', ex, ewhy⟩) := by
            unfold readC
            rw [HX.out]
            dsimp only
            rw [if_neg (by rw [he]; decide)]
          unfold RReadP
          rw [hrc]
          have hne := HNE.out
          refine ⟨rfl, dfar7 HC8.out (by omega) _ _ _ _ _ _ _, dfar7 HR8.out (by omega) _ _ _ _ _ _ _, ?_⟩
          exact dturn7 ((HE7.out.tu.mono (by simp)).trans (HT8.out.mono (by simp))) (Nat.le_refl _) _ _ _ _ _ _ _)
      · have g1 : ((zr.err : Int) != 0) = true := by rw [bne_iff_ne]; omega
        go_wp2_with fail
        have hF := dset7 HE7.out.bz (.int .u8 0) (.int .i64 0) (.int .i64 0) (.int .i64 0) (.int .i64 0) (.int .i64 0) (.int .u8 0)
        have q0 := hF.cell 0 (v := .int .u8 0) rfl
        have q1 := hF.cell 1 (v := .int .i64 0) rfl
        have q2 := hF.cell 2 (v := .int .i64 0) rfl
        have q3 := hF.cell 3 (v := .int .i64 0) rfl
        have q4 := hF.cell 4 (v := .int .i64 0) rfl
        have q5 := hF.cell 5 (v := .int .i64 0) rfl
        have q6 := hF.cell 6 (v := .int .u8 0) rfl
        exact bodyPost_ret (v := .tuple #[.agg #[.int .u8 0, .int .i64 0, .int .i64 0, .int .i64 0, .int .i64 0, .int .i64 0, .int .u8 0], .int .i64 (zr.err : Int)]) (by simp [results, Tryd.results23, go_sem, q0, q1, q2, q3, q4, q5, q6]) rfl (by
          rw [HQ.out]
          have hrc : readC T V S c r0 = (⟨0, 0, 0, 0, 0, 0, 0⟩, zr.err, zr, c) := by
            unfold readC
            rw [HX.out]
            dsimp only
            rw [if_pos he]
          unfold RReadP
          rw [hrc]
          have hne := HE7.out.ne
          refine ⟨rfl, dfar7 HE7.out.bc (by omega) _ _ _ _ _ _ _, dfar7 HE7.out.rd (by omega) _ _ _ _ _ _ _, ?_⟩
          exact dturn7 (HE7.out.tu.mono (by simp)) (Nat.le_refl _) _ _ _ _ _ _ _)
    · subst hk
      obtain ⟨ev, hev⟩ : ∃ ev : Ev, ev = ⟨12, (th : Int), 0, 0, 0, 0, 0⟩ := ⟨_, rfl⟩
      obtain ⟨zr, hzr⟩ : ∃ zr : Rdr, zr = y2 := ⟨_, rfl⟩
      have HX : Hid (lineR T V S c r0 = (ev, zr)) := hid (by
        rw [HRC.out, hev, hzr]
        first | rfl | (unfold lineX; simp))
      have HE : Hid (RSt T V S c s W C b L w3 zr ev) := hid (by rw [hev, hzr]; exact HS.out)
      have HWR := hid (qwrong_any b s zr.at_ zr.err _ HE.out.rd)
      clear hev hzr HS
      try clear HKE
      go_wp2_with fail
      refine HWR.out.mono ?_
      rintro e' W7 ⟨rfl, hb7⟩
      have HE7 := hid (HE.out.below hb7)
      have x0 := HE7.out.bz.cell 0 (v := .int .u8 0) rfl
      have x1 := HE7.out.bz.cell 1 (v := .int .i64 0) rfl
      have x2 := HE7.out.bz.cell 2 (v := .int .i64 0) rfl
      have x3 := HE7.out.bz.cell 3 (v := .int .i64 0) rfl
      have x4 := HE7.out.bz.cell 4 (v := .int .i64 0) rfl
      have x5 := HE7.out.bz.cell 5 (v := .int .i64 0) rfl
      have x6 := HE7.out.bz.cell 6 (v := .int .u8 0) rfl
      have y0 := HE7.out.bz.free 0
      have y1 := HE7.out.bz.free 1
      have y2 := HE7.out.bz.free 2
      have y3 := HE7.out.bz.free 3
      have y4 := HE7.out.bz.free 4
      have y5 := HE7.out.bz.free 5
      have y6 := HE7.out.bz.free 6
      clear hb7 HE HWR
      by_cases he : zr.err = 0
      · obtain ⟨ta, -, -, -⟩ := read_anew (T := T) (V := V) (S := S) (c := c) (s := byt s) (at_ := at_) (e := ev) (r' := zr) ⟨HTV.out.1.1, HTV.out.1.2, HTV.out.2.1.1, HTV.out.2.1.2, HTV.out.2.2.1, HTV.out.2.2.2⟩ HOK.out (byt_lt s) (by rw [← HR0.out]; exact HX.out) he
        have g1 : ((zr.err : Int) != 0) = false := by rw [he]; rfl
        obtain ⟨ek, eth, etx, ea, ev', ex, ewhy⟩ := ev
        have hth0 : 0 ≤ eth := by
          have h1 := ta
          unfold tellsC at h1
          rw [Bool.and_eq_true] at h1
          obtain ⟨-, ⟨-, -, -, t1, -⟩, -⟩ := may_sizes' h1.1
          dsimp only at t1
          omega
        obtain ⟨th2, rfl⟩ := Int.eq_ofNat_of_zero_le hth0
        obtain ⟨w1', w2', w3'⟩ := w_ats ta
        have l0 := HE7.out.be.cell 0 (v := .int .u8 ek) rfl
        have l1 := HE7.out.be.cell 1 (v := .int .i64 (th2 : Int)) rfl
        have l2 := HE7.out.be.cell 2 (v := .int .i64 etx) rfl
        have l3 := HE7.out.be.cell 3 (v := .int .i64 ea) rfl
        have l4 := HE7.out.be.cell 4 (v := .int .i64 ev') rfl
        have l5 := HE7.out.be.cell 5 (v := .int .i64 ex) rfl
        have l6 := HE7.out.be.cell 6 (v := .int .u8 ewhy) rfl
        have HKN := hid (qknows_any T V S c ek etx ea ev' ex ewhy th2 ea.toNat C W7 HE7.out.bc w1' w2' w3')
        dsimp only [evA] at HKN
        clear ta hth0 w1' w2' w3' x0 x1 x2 x3 x4 x5 x6 y0 y1 y2 y3 y4 y5 y6
        go_wp2_with fail
        refine HKN.out.mono ?_
        rintro e' W8 ⟨rfl, hC8, hT8⟩
        have hne := HE7.out.ne
        have hE8 := hT8.blk (k := W.heap.size) (by simp only [List.mem_cons, List.not_mem_nil, or_false]; omega) HE7.out.bz
        have hL8 := hT8.blk (k := L) (by simp only [List.mem_cons, List.not_mem_nil, or_false]; omega) HE7.out.be
        have hR8 : RRd W8 b s zr.at_ zr.err := Turn.blk hT8 (by simp only [List.mem_cons, List.not_mem_nil, or_false]; omega) HE7.out.rd
        have l0 := hL8.cell 0 (v := .int .u8 ek) rfl
        have l1 := hL8.cell 1 (v := .int .i64 (th2 : Int)) rfl
        have l2 := hL8.cell 2 (v := .int .i64 etx) rfl
        have l3 := hL8.cell 3 (v := .int .i64 ea) rfl
        have l4 := hL8.cell 4 (v := .int .i64 ev') rfl
        have l5 := hL8.cell 5 (v := .int .i64 ex) rfl
        have l6 := hL8.cell 6 (v := .int .u8 ewhy) rfl
        have x0 := hE8.cell 0 (v := .int .u8 0) rfl
        have y0 := hE8.free 0
        have x1 := hE8.cell 1 (v := .int .i64 0) rfl
        have y1 := hE8.free 1
        have x2 := hE8.cell 2 (v := .int .i64 0) rfl
        have y2 := hE8.free 2
        have x3 := hE8.cell 3 (v := .int .i64 0) rfl
        have y3 := hE8.free 3
        have x4 := hE8.cell 4 (v := .int .i64 0) rfl
        have y4 := hE8.free 4
        have x5 := hE8.cell 5 (v := .int .i64 0) rfl
        have y5 := hE8.free 5
        have x6 := hE8.cell 6 (v := .int .u8 0) rfl
        have y6 := hE8.free 6
        have HE8 := hid hE8
        have HR8 := hid hR8
        have HC8 := hid hC8
        have HT8 := hid hT8
        have HNE := hid hne
        clear hE8 hL8 hR8 hC8 hT8 hne
        go_wp2_with fail
        have hF := dset7 HE8.out (.int .u8 ek) (.int .i64 (th2 : Int)) (.int .i64 etx) (.int .i64 ea) (.int .i64 ev') (.int .i64 ex) (.int .u8 ewhy)
        have q0 := hF.cell 0 (v := .int .u8 ek) rfl
        have q1 := hF.cell 1 (v := .int .i64 (th2 : Int)) rfl
        have q2 := hF.cell 2 (v := .int .i64 etx) rfl
        have q3 := hF.cell 3 (v := .int .i64 ea) rfl
        have q4 := hF.cell 4 (v := .int .i64 ev') rfl
        have q5 := hF.cell 5 (v := .int .i64 ex) rfl
        have q6 := hF.cell 6 (v := .int .u8 ewhy) rfl
        exact bodyPost_ret (v := .tuple #[.agg #[.int .u8 ek, .int .i64 (th2 : Int), .int .i64 etx, .int .i64 ea, .int .i64 ev', .int .i64 ex, .int .u8 ewhy], .int .i64 0]) (by simp [results, Tryd.results23, go_sem, q0, q1, q2, q3, q4, q5, q6]) rfl (by
          rw [HQ.out]
          have hrc : readC T V S c r0 = (⟨ek, (th2 : Int), etx, ea, ev', ex, ewhy⟩, 0, zr, knowsC c ⟨ek, (th2 : Int), etx, ea, ev', ex, ewhy⟩) := by
            unfold readC
            rw [HX.out]
            dsimp only
            rw [if_neg (by rw [he]; decide)]
          unfold RReadP
          rw [hrc]
          have hne := HNE.out
          refine ⟨rfl, dfar7 HC8.out (by omega) _ _ _ _ _ _ _, dfar7 HR8.out (by omega) _ _ _ _ _ _ _, ?_⟩
          exact dturn7 ((HE7.out.tu.mono (by simp)).trans (HT8.out.mono (by simp))) (Nat.le_refl _) _ _ _ _ _ _ _)
      · have g1 : ((zr.err : Int) != 0) = true := by rw [bne_iff_ne]; omega
        go_wp2_with fail
        have hF := dset7 HE7.out.bz (.int .u8 0) (.int .i64 0) (.int .i64 0) (.int .i64 0) (.int .i64 0) (.int .i64 0) (.int .u8 0)
        have q0 := hF.cell 0 (v := .int .u8 0) rfl
        have q1 := hF.cell 1 (v := .int .i64 0) rfl
        have q2 := hF.cell 2 (v := .int .i64 0) rfl
        have q3 := hF.cell 3 (v := .int .i64 0) rfl
        have q4 := hF.cell 4 (v := .int .i64 0) rfl
        have q5 := hF.cell 5 (v := .int .i64 0) rfl
        have q6 := hF.cell 6 (v := .int .u8 0) rfl
        exact bodyPost_ret (v := .tuple #[.agg #[.int .u8 0, .int .i64 0, .int .i64 0, .int .i64 0, .int .i64 0, .int .i64 0, .int .u8 0], .int .i64 (zr.err : Int)]) (by simp [results, Tryd.results23, go_sem, q0, q1, q2, q3, q4, q5, q6]) rfl (by
          rw [HQ.out]
          have hrc : readC T V S c r0 = (⟨0, 0, 0, 0, 0, 0, 0⟩, zr.err, zr, c) := by
            unfold readC
            rw [HX.out]
            dsimp only
            rw [if_pos he]
          unfold RReadP
          rw [hrc]
          have hne := HE7.out.ne
          refine ⟨rfl, dfar7 HE7.out.bc (by omega) _ _ _ _ _ _ _, dfar7 HE7.out.rd (by omega) _ _ _ _ _ _ _, ?_⟩
          exact dturn7 (HE7.out.tu.mono (by simp)) (Nat.le_refl _) _ _ _ _ _ _ _)
    · subst hk
      obtain ⟨ev, hev⟩ : ∃ ev : Ev, ev = ⟨13, (th : Int), 0, 0, 0, 0, 0⟩ := ⟨_, rfl⟩
      obtain ⟨zr, hzr⟩ : ∃ zr : Rdr, zr = y2 := ⟨_, rfl⟩
      have HX : Hid (lineR T V S c r0 = (ev, zr)) := hid (by
        rw [HRC.out, hev, hzr]
        first | rfl | (unfold lineX; simp))
      have HE : Hid (RSt T V S c s W C b L w3 zr ev) := hid (by rw [hev, hzr]; exact HS.out)
      have HWR := hid (qwrong_any b s zr.at_ zr.err _ HE.out.rd)
      clear hev hzr HS
      try clear HKE
      go_wp2_with fail
      refine HWR.out.mono ?_
      rintro e' W7 ⟨rfl, hb7⟩
      have HE7 := hid (HE.out.below hb7)
      have x0 := HE7.out.bz.cell 0 (v := .int .u8 0) rfl
      have x1 := HE7.out.bz.cell 1 (v := .int .i64 0) rfl
      have x2 := HE7.out.bz.cell 2 (v := .int .i64 0) rfl
      have x3 := HE7.out.bz.cell 3 (v := .int .i64 0) rfl
      have x4 := HE7.out.bz.cell 4 (v := .int .i64 0) rfl
      have x5 := HE7.out.bz.cell 5 (v := .int .i64 0) rfl
      have x6 := HE7.out.bz.cell 6 (v := .int .u8 0) rfl
      have y0 := HE7.out.bz.free 0
      have y1 := HE7.out.bz.free 1
      have y2 := HE7.out.bz.free 2
      have y3 := HE7.out.bz.free 3
      have y4 := HE7.out.bz.free 4
      have y5 := HE7.out.bz.free 5
      have y6 := HE7.out.bz.free 6
      clear hb7 HE HWR
      by_cases he : zr.err = 0
      · obtain ⟨ta, -, -, -⟩ := read_anew (T := T) (V := V) (S := S) (c := c) (s := byt s) (at_ := at_) (e := ev) (r' := zr) ⟨HTV.out.1.1, HTV.out.1.2, HTV.out.2.1.1, HTV.out.2.1.2, HTV.out.2.2.1, HTV.out.2.2.2⟩ HOK.out (byt_lt s) (by rw [← HR0.out]; exact HX.out) he
        have g1 : ((zr.err : Int) != 0) = false := by rw [he]; rfl
        obtain ⟨ek, eth, etx, ea, ev', ex, ewhy⟩ := ev
        have hth0 : 0 ≤ eth := by
          have h1 := ta
          unfold tellsC at h1
          rw [Bool.and_eq_true] at h1
          obtain ⟨-, ⟨-, -, -, t1, -⟩, -⟩ := may_sizes' h1.1
          dsimp only at t1
          omega
        obtain ⟨th2, rfl⟩ := Int.eq_ofNat_of_zero_le hth0
        obtain ⟨w1', w2', w3'⟩ := w_ats ta
        have l0 := HE7.out.be.cell 0 (v := .int .u8 ek) rfl
        have l1 := HE7.out.be.cell 1 (v := .int .i64 (th2 : Int)) rfl
        have l2 := HE7.out.be.cell 2 (v := .int .i64 etx) rfl
        have l3 := HE7.out.be.cell 3 (v := .int .i64 ea) rfl
        have l4 := HE7.out.be.cell 4 (v := .int .i64 ev') rfl
        have l5 := HE7.out.be.cell 5 (v := .int .i64 ex) rfl
        have l6 := HE7.out.be.cell 6 (v := .int .u8 ewhy) rfl
        have HKN := hid (qknows_any T V S c ek etx ea ev' ex ewhy th2 ea.toNat C W7 HE7.out.bc w1' w2' w3')
        dsimp only [evA] at HKN
        clear ta hth0 w1' w2' w3' x0 x1 x2 x3 x4 x5 x6 y0 y1 y2 y3 y4 y5 y6
        go_wp2_with fail
        refine HKN.out.mono ?_
        rintro e' W8 ⟨rfl, hC8, hT8⟩
        have hne := HE7.out.ne
        have hE8 := hT8.blk (k := W.heap.size) (by simp only [List.mem_cons, List.not_mem_nil, or_false]; omega) HE7.out.bz
        have hL8 := hT8.blk (k := L) (by simp only [List.mem_cons, List.not_mem_nil, or_false]; omega) HE7.out.be
        have hR8 : RRd W8 b s zr.at_ zr.err := Turn.blk hT8 (by simp only [List.mem_cons, List.not_mem_nil, or_false]; omega) HE7.out.rd
        have l0 := hL8.cell 0 (v := .int .u8 ek) rfl
        have l1 := hL8.cell 1 (v := .int .i64 (th2 : Int)) rfl
        have l2 := hL8.cell 2 (v := .int .i64 etx) rfl
        have l3 := hL8.cell 3 (v := .int .i64 ea) rfl
        have l4 := hL8.cell 4 (v := .int .i64 ev') rfl
        have l5 := hL8.cell 5 (v := .int .i64 ex) rfl
        have l6 := hL8.cell 6 (v := .int .u8 ewhy) rfl
        have x0 := hE8.cell 0 (v := .int .u8 0) rfl
        have y0 := hE8.free 0
        have x1 := hE8.cell 1 (v := .int .i64 0) rfl
        have y1 := hE8.free 1
        have x2 := hE8.cell 2 (v := .int .i64 0) rfl
        have y2 := hE8.free 2
        have x3 := hE8.cell 3 (v := .int .i64 0) rfl
        have y3 := hE8.free 3
        have x4 := hE8.cell 4 (v := .int .i64 0) rfl
        have y4 := hE8.free 4
        have x5 := hE8.cell 5 (v := .int .i64 0) rfl
        have y5 := hE8.free 5
        have x6 := hE8.cell 6 (v := .int .u8 0) rfl
        have y6 := hE8.free 6
        have HE8 := hid hE8
        have HR8 := hid hR8
        have HC8 := hid hC8
        have HT8 := hid hT8
        have HNE := hid hne
        clear hE8 hL8 hR8 hC8 hT8 hne
        go_wp2_with fail
        have hF := dset7 HE8.out (.int .u8 ek) (.int .i64 (th2 : Int)) (.int .i64 etx) (.int .i64 ea) (.int .i64 ev') (.int .i64 ex) (.int .u8 ewhy)
        have q0 := hF.cell 0 (v := .int .u8 ek) rfl
        have q1 := hF.cell 1 (v := .int .i64 (th2 : Int)) rfl
        have q2 := hF.cell 2 (v := .int .i64 etx) rfl
        have q3 := hF.cell 3 (v := .int .i64 ea) rfl
        have q4 := hF.cell 4 (v := .int .i64 ev') rfl
        have q5 := hF.cell 5 (v := .int .i64 ex) rfl
        have q6 := hF.cell 6 (v := .int .u8 ewhy) rfl
        exact bodyPost_ret (v := .tuple #[.agg #[.int .u8 ek, .int .i64 (th2 : Int), .int .i64 etx, .int .i64 ea, .int .i64 ev', .int .i64 ex, .int .u8 ewhy], .int .i64 0]) (by simp [results, Tryd.results23, go_sem, q0, q1, q2, q3, q4, q5, q6]) rfl (by
          rw [HQ.out]
          have hrc : readC T V S c r0 = (⟨ek, (th2 : Int), etx, ea, ev', ex, ewhy⟩, 0, zr, knowsC c ⟨ek, (th2 : Int), etx, ea, ev', ex, ewhy⟩) := by
            unfold readC
            rw [HX.out]
            dsimp only
            rw [if_neg (by rw [he]; decide)]
          unfold RReadP
          rw [hrc]
          have hne := HNE.out
          refine ⟨rfl, dfar7 HC8.out (by omega) _ _ _ _ _ _ _, dfar7 HR8.out (by omega) _ _ _ _ _ _ _, ?_⟩
          exact dturn7 ((HE7.out.tu.mono (by simp)).trans (HT8.out.mono (by simp))) (Nat.le_refl _) _ _ _ _ _ _ _)
      · have g1 : ((zr.err : Int) != 0) = true := by rw [bne_iff_ne]; omega
        go_wp2_with fail
        have hF := dset7 HE7.out.bz (.int .u8 0) (.int .i64 0) (.int .i64 0) (.int .i64 0) (.int .i64 0) (.int .i64 0) (.int .u8 0)
        have q0 := hF.cell 0 (v := .int .u8 0) rfl
        have q1 := hF.cell 1 (v := .int .i64 0) rfl
        have q2 := hF.cell 2 (v := .int .i64 0) rfl
        have q3 := hF.cell 3 (v := .int .i64 0) rfl
        have q4 := hF.cell 4 (v := .int .i64 0) rfl
        have q5 := hF.cell 5 (v := .int .i64 0) rfl
        have q6 := hF.cell 6 (v := .int .u8 0) rfl
        exact bodyPost_ret (v := .tuple #[.agg #[.int .u8 0, .int .i64 0, .int .i64 0, .int .i64 0, .int .i64 0, .int .i64 0, .int .u8 0], .int .i64 (zr.err : Int)]) (by simp [results, Tryd.results23, go_sem, q0, q1, q2, q3, q4, q5, q6]) rfl (by
          rw [HQ.out]
          have hrc : readC T V S c r0 = (⟨0, 0, 0, 0, 0, 0, 0⟩, zr.err, zr, c) := by
            unfold readC
            rw [HX.out]
            dsimp only
            rw [if_pos he]
          unfold RReadP
          rw [hrc]
          have hne := HE7.out.ne
          refine ⟨rfl, dfar7 HE7.out.bc (by omega) _ _ _ _ _ _ _, dfar7 HE7.out.rd (by omega) _ _ _ _ _ _ _, ?_⟩
          exact dturn7 (HE7.out.tu.mono (by simp)) (Nat.le_refl _) _ _ _ _ _ _ _)
end Go.Proofs.YtokkafiphchejaaDoor
