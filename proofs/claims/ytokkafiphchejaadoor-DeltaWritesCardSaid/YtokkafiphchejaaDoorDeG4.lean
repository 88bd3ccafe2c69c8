/-
  Joined texts: DeR5 DeE DeF.
-/
import Derived.Test.YtokkafiphchejaaDoorDeG1
import Derived.Test.YtokkafiphchejaaDoorDeG2
import Derived.Test.YtokkafiphchejaaDoorDeG3
import Derived.Laws.EntriesVeiled
import Derived.Test.YtokkafiphchejaaDoorDeG0
/-
  Walk: (*Coder).Read.
-/
namespace Go.Proofs.YtokkafiphchejaaDoor
set_option linter.unusedVariables false
set_option linter.unusedSimpArgs false
set_option linter.unusedVariables false
open Go Go.RowKit
theorem r_meth {T V S : Int} {c : Cdr} {r : Rdr} {p : Nat} (hc : OkC T c) (hT : 1 ≤ T ∧ T ≤ 6) (hV : 1 ≤ V ∧ V ≤ 32) (hS : 1 ≤ S ∧ S ≤ 32) (kind : Int) (th : Nat) (s : Rdr × Nat) : MethOk rCl (fun _ => True) V S c kind th 0 0 0 0 0 s := by
  have hcl := hc.clock
  have hbg := hc.begun th
  unfold maxClockN at hcl hbg
  refine ⟨by omega, hcl, hbg, by omega, fun _ => ⟨trivial, trivial⟩, fun _ => ⟨trivial, trivial⟩, fun _ => ⟨trivial, (numR s.1 (V - 1).toNat).1, rfl, ?_⟩, fun _ => trivial, fun _ => trivial, fun _ => trivial, fun _ => ⟨trivial, trivial, ?_⟩⟩
  · have := numR_le s.1 (V - 1).toNat
    omega
  · have := numR_le s.1 (5 : Int).toNat
    show ((numR s.1 (5 : Int).toNat).1 : Int) ≤ 5
    omega
theorem dset7 {w : World} {b : Nat} {c0 c1 c2 c3 c4 c5 c6 : Value} {t : TypeId} (h : Blk w b #[c0, c1, c2, c3, c4, c5, c6] t) (v0 v1 v2 v3 v4 v5 v6 : Value) : Blk (((((((w.setCell ⟨b, 0, none⟩ v0).setCell ⟨b, 1, none⟩ v1).setCell ⟨b, 2, none⟩ v2).setCell ⟨b, 3, none⟩ v3).setCell ⟨b, 4, none⟩ v4).setCell ⟨b, 5, none⟩ v5).setCell ⟨b, 6, none⟩ v6) b #[v0, v1, v2, v3, v4, v5, v6] t := by
  have := ((((((h.set 0 v0).set 1 v1).set 2 v2).set 3 v3).set 4 v4).set 5 v5).set 6 v6
  simpa using this
theorem dfar7 {w : World} {b d : Nat} {cs : Array Value} {t : TypeId} (h : Blk w d cs t) (hne : d ≠ b) (v0 v1 v2 v3 v4 v5 v6 : Value) : Blk (((((((w.setCell ⟨b, 0, none⟩ v0).setCell ⟨b, 1, none⟩ v1).setCell ⟨b, 2, none⟩ v2).setCell ⟨b, 3, none⟩ v3).setCell ⟨b, 4, none⟩ v4).setCell ⟨b, 5, none⟩ v5).setCell ⟨b, 6, none⟩ v6) d cs t :=
  ((((((h.set_other ⟨b, 0, none⟩ v0 hne).set_other ⟨b, 1, none⟩ v1 hne).set_other ⟨b, 2, none⟩ v2 hne).set_other ⟨b, 3, none⟩ v3 hne).set_other ⟨b, 4, none⟩ v4 hne).set_other ⟨b, 5, none⟩ v5 hne).set_other ⟨b, 6, none⟩ v6 hne
theorem dturn7 {l : List Nat} {a w : World} {b : Nat} (h : Turn l a w) (hb : a.heap.size ≤ b) (v0 v1 v2 v3 v4 v5 v6 : Value) : Turn l a (((((((w.setCell ⟨b, 0, none⟩ v0).setCell ⟨b, 1, none⟩ v1).setCell ⟨b, 2, none⟩ v2).setCell ⟨b, 3, none⟩ v3).setCell ⟨b, 4, none⟩ v4).setCell ⟨b, 5, none⟩ v5).setCell ⟨b, 6, none⟩ v6) :=
  ((((((h.setCell (p := ⟨b, 0, none⟩) (Or.inr hb) v0).setCell (p := ⟨b, 1, none⟩) (Or.inr hb) v1).setCell (p := ⟨b, 2, none⟩) (Or.inr hb) v2).setCell (p := ⟨b, 3, none⟩) (Or.inr hb) v3).setCell (p := ⟨b, 4, none⟩) (Or.inr hb) v4).setCell (p := ⟨b, 5, none⟩) (Or.inr hb) v5).setCell (p := ⟨b, 6, none⟩) (Or.inr hb) v6
theorem Turn.over {l m : List Nat} {a b c : World} (h : Turn l a b) (k : Turn m b c) (hm : ∀ x ∈ m, x ∈ l ∨ a.heap.size ≤ x) : Turn l a c :=
  ⟨k.os.trans h.os, k.tape.trans h.tape, k.output.trans h.output, Nat.le_trans h.size k.size, fun i hi hn => (k.block i (Nat.lt_of_lt_of_le hi h.size) (fun h' => (hm i h').elim hn (fun e => absurd hi (Nat.not_lt.2 e)))).trans (h.block i hi hn)⟩
/-- What Read tells. -/
def ReadEP (T V S : Int) (s : ByteArray) (z : Ev × Nat × Rdr × Cdr) (C b : Nat) (W : World) (e' : Ending) (W' : World) : Prop :=
  e' = .returned (.tuple #[evA z.1, .int .i64 (z.2.1 : Int)]) ∧ Blk W' C (cdrA T V S z.2.2.2) 74 ∧ RdrAt W' b s z.2.2.1.at_ z.2.2.1.err ∧ Turn [C, b] W W'
set_option maxRecDepth 100000 in
set_option maxHeartbeats 4000000 in
theorem dread_any (T V S : Int) (c : Cdr) (s : ByteArray) (at_ : Nat) (C b : Nat) (W : World) (hC : Blk W C (cdrA T V S c) 74) (hT : 1 ≤ T ∧ T ≤ 6) (hV : 1 ≤ V ∧ V ≤ 32) (hS : 1 ≤ S ∧ S ≤ V) (hc : OkC T c) (hr : RdrAt W b s at_ 0) (hs : s.size ≤ 16777216) (ha : at_ ≤ s.size) (hCb : C ≠ b):
    Calls Tryd.prog 22 #[.pointer (some ⟨C, 0, none⟩), .pointer (some ⟨b, 0, none⟩)] W (ReadEP T V S s (readC T V S c ⟨byt s, at_, 0⟩) C b W) := by
  obtain ⟨W1, hW1⟩ : ∃ W1, W1 = (W.alloc (.cells #[.pointer (some ⟨b, 0, none⟩)] 50)).alloc (.cells #[.int .u8 0, .int .i64 0, .int .i64 0, .int .i64 0, .int .i64 0, .int .i64 0, .int .u8 0] 33) := ⟨_, rfl⟩
  have hb1 : Below W.heap.size W W1 := by rw [hW1]; exact ext_alloc (ext_alloc (ext_refl _) _) _
  have hx1 : Blk W1 W.heap.size #[.pointer (some ⟨b, 0, none⟩)] 50 := by rw [hW1]; exact (Blk.new W #[.pointer (some ⟨b, 0, none⟩)] 50).below (ext_alloc (ext_refl _) _)
  have he1 : Blk W1 (W.heap.size + 1) #[.int .u8 0, .int .i64 0, .int .i64 0, .int .i64 0, .int .i64 0, .int .i64 0, .int .u8 0] 33 := by rw [hW1]; exact Blk.new' _ _ _ (by (first | exact Array.size_push _ | exact (Array.size_push _).symm))
  have cx := hx1.cell 0 (v := .pointer (some ⟨b, 0, none⟩)) rfl
  have HAT := hid (rAt_any b s at_ 0 W1 (hr.below hb1))
  have HB1 := hid hb1
  have HX1 := hid hx1
  have HE1 := hid he1
  have HW1 := hid hW1
  have HC := hid hC
  have HR := hid hr
  obtain ⟨Q, hQ⟩ : ∃ Q, Q = ReadEP T V S s (readC T V S c ⟨byt s, at_, 0⟩) C b W := ⟨_, rfl⟩
  rw [← hQ]
  have HQ := hid hQ
  have HTV := hid (show (1 ≤ T ∧ T ≤ 6) ∧ (1 ≤ V ∧ V ≤ 32) ∧ (1 ≤ S ∧ S ≤ V) from ⟨hT, hV, hS⟩)
  have HOK := hid hc
  have HSZ := hid hs
  have HA := hid ha
  have HNE := hid hCb
  clear hC hr hb1 hx1 he1 hW1 hQ hT hV hS hc hs ha hCb
  go_enter Tryd.func22, Tryd.ntmps22
  go_wp2_with fail
  rw [← HW1.out]
  refine HAT.out.mono ?_
  rintro e' w2 ⟨rfl, rfl⟩
  clear HAT HW1
  obtain ⟨W3, hW3⟩ : ∃ W3, W3 = (W1.alloc (.cells #[.int .i64 (at_ : Int)] 3)).alloc (.cells (lineA C ⟨12, 0, 0, 0, 0, 0, 0⟩ .nilFunc .nilFunc .nilFunc) 83) := ⟨_, rfl⟩
  have hL3 : Blk W3 (W1.heap.size + 1) (lineA C ⟨12, 0, 0, 0, 0, 0, 0⟩ .nilFunc .nilFunc .nilFunc) 83 := by rw [hW3]; exact Blk.new' _ _ _ (by (first | exact Array.size_push _ | exact (Array.size_push _).symm))
  have hP3 : Blk W3 W1.heap.size #[.int .i64 (at_ : Int)] 3 := by rw [hW3]; exact (Blk.new W1 #[.int .i64 (at_ : Int)] 3).below (ext_alloc (ext_refl _) _)
  have hB3 : Below W1.heap.size W1 W3 := by rw [hW3]; exact ext_alloc (ext_alloc (ext_refl _) _) _
  have HP3 := hid hP3
  have HB3 := hid hB3
  have HL3 := hid hL3
  have p8 := hL3.cell 8 (v := .nilFunc) rfl
  have z8 := hL3.free 8
  have hL4 := hL3.set 8 (clo 42 #[.pointer (some ⟨W.heap.size, 0, none⟩), .pointer (some ⟨W1.heap.size, 0, none⟩)])
  have p9 := hL4.cell 9 (v := .nilFunc) rfl
  have z9 := hL4.free 9
  have hL5 := hL4.set 9 (clo 44 #[.pointer (some ⟨W.heap.size, 0, none⟩)])
  have p10 := hL5.cell 10 (v := .nilFunc) rfl
  have z10 := hL5.free 10
  clear hL3 hP3 hB3 hL4 hL5
  unfold lineA at hW3
  unfold clo at p9 z9 p10 z10
  have HW3 := hid hW3
  clear hW3
  go_wp2_with (rw [← HW3.out]; go_simp)
  clear p8 z8 p9 z9 p10 z10 cx
  obtain ⟨W5, hW5⟩ : ∃ W5, W5 = ((W3.setCell ⟨W1.heap.size + 1, 8, none⟩ (clo 42 #[.pointer (some ⟨W.heap.size, 0, none⟩), .pointer (some ⟨W1.heap.size, 0, none⟩)])).setCell ⟨W1.heap.size + 1, 9, none⟩ (clo 44 #[.pointer (some ⟨W.heap.size, 0, none⟩)])).setCell ⟨W1.heap.size + 1, 10, none⟩ (clo 46 #[.pointer (some ⟨W.heap.size, 0, none⟩), .pointer (some ⟨W1.heap.size, 0, none⟩)]) := ⟨_, rfl⟩
  have hne1 : W1.heap.size ≠ W1.heap.size + 1 := by omega
  have hle1 : W1.heap.size ≤ W1.heap.size + 1 := by omega
  have hL5 : Blk W5 (W1.heap.size + 1) (lineA C ⟨12, ((0 : Nat) : Int), 0, 0, 0, 0, 0⟩ (clo 42 #[.pointer (some ⟨W.heap.size, 0, none⟩), .pointer (some ⟨W1.heap.size, 0, none⟩)]) (clo 44 #[.pointer (some ⟨W.heap.size, 0, none⟩)]) (clo 46 #[.pointer (some ⟨W.heap.size, 0, none⟩), .pointer (some ⟨W1.heap.size, 0, none⟩)])) 83 := by rw [hW5]; exact ((HL3.out.set 8 _).set 9 _).set 10 _
  have hP5 : Blk W5 W1.heap.size #[.int .i64 (at_ : Int)] 3 := by rw [hW5]; exact ((HP3.out.set_other _ _ hne1).set_other _ _ hne1).set_other _ _ hne1
  have hB5 : Below W1.heap.size W1 W5 := by rw [hW5]; exact ((HB3.out.setCell (p := ⟨W1.heap.size + 1, 8, none⟩) hle1 _).setCell (p := ⟨W1.heap.size + 1, 9, none⟩) hle1 _).setCell (p := ⟨W1.heap.size + 1, 10, none⟩) hle1 _
  have hW5' := hW5
  unfold clo at hW5'
  rw [← hW5']
  clear hW5 hW5' HW3 HL3 HP3 HB3 hne1 hle1
  have hB05 := ext_trans HB1.out hB5
  have hC5 := HC.out.below hB05
  have hR5 : RdrAt W5 b s at_ 0 := Blk.below hB05 HR.out
  have hbW : b < W.heap.size := Blk.lt HR.out
  have hCW : C < W.heap.size := HC.out.lt
  have hW1s : W.heap.size < W1.heap.size := HX1.out.lt
  have hTV := HTV.out
  have hCb := HNE.out
  have hws := hB5.size
  have hks : ∀ k ∈ [W.heap.size, b, W1.heap.size], k < W5.heap.size := by
    have hl5 := hP5.lt
    intro k hk
    rcases List.mem_cons.1 hk with e | hk
    · omega
    rcases List.mem_cons.1 hk with e | hk
    · omega
    rcases List.mem_cons.1 hk with e | hk
    · omega
    cases hk
  have OV := over_any (rClOk s W.heap.size b W1.heap.size HSZ.out (by omega) (by omega) (by omega)) T V S c 12 0 0 0 0 0 0 (⟨byt s, at_, 0⟩, at_) (W1.heap.size + 1) C W5 hL5 hC5 ⟨hR5, HX1.out.below hB5, hP5, ⟨rfl, HA.out⟩, Nat.le_refl _⟩ (by simp only [List.mem_cons, List.not_mem_nil, or_false]; omega) (by simp only [List.mem_cons, List.not_mem_nil, or_false]; omega) (by omega) trivial hTV.1 hTV.2.1 (by omega) (by omega) (by omega) HOK.out.last hks trivial (by
    have := numR_le ⟨byt s, at_, 0⟩ (13 * T - 1).toNat
    show 0 ≤ ((numR ⟨byt s, at_, 0⟩ (13 * T - 1).toNat).1 : Int) ∧ ((numR ⟨byt s, at_, 0⟩ (13 * T - 1).toNat).1 : Int) ≤ _
    omega) (fun t' _ _ => r_meth (r := ⟨byt s, at_, 0⟩) (p := at_) HOK.out hTV.1 hTV.2.1 (by omega) _ t' _)
  obtain ⟨lr1, lr2⟩ := line_read (T := T) (V := V) (S := S) (c := c) (r := ⟨byt s, at_, 0⟩) (p := at_)
  have lr1 : (lineG rCl T V S c ⟨12, ((0 : Nat) : Int), 0, 0, 0, 0, 0⟩ (⟨byt s, at_, 0⟩, at_)).1 = (lineR T V S c ⟨byt s, at_, 0⟩).1 := lr1
  have lr2 : (lineG rCl T V S c ⟨12, ((0 : Nat) : Int), 0, 0, 0, 0, 0⟩ (⟨byt s, at_, 0⟩, at_)).2.1 = (lineR T V S c ⟨byt s, at_, 0⟩).2 := lr2
  generalize (lineG rCl T V S c ⟨12, ((0 : Nat) : Int), 0, 0, 0, 0, 0⟩ (⟨byt s, at_, 0⟩, at_)) = z at OV lr1 lr2
  have HOV := hid OV
  have HLR := hid (And.intro lr1 lr2)
  have HB5 := hid hB5
  have HNS := hid (And.intro hbW (And.intro hCW hW1s))
  clear OV hws hCb lr1 lr2 hB5 hL5 hP5 hB05 hC5 hR5 hbW hCW hW1s hTV
  refine HOV.out.mono ?_
  rintro e' W6 ⟨rfl, hat6, hT6, hL6⟩
  clear HOV
  obtain ⟨ze, zr, zp⟩ := z
  dsimp only at hat6 hL6 HLR
  obtain ⟨hrd, hvx, hvp, hok6, hle6⟩ := hat6
  have cx := hvx.cell 0 (v := .pointer (some ⟨b, 0, none⟩)) rfl
  have HRD := hid hrd
  have HWR := hid (rWrong_any b s zr.at_ zr.err W6 hrd)
  have hnC : C ∉ (W1.heap.size + 1) :: [W.heap.size, b, W1.heap.size] := by
    have := HNS.out
    have := HNE.out
    simp only [List.mem_cons, List.not_mem_nil, or_false]
    omega
  have hnE : W.heap.size + 1 ∉ (W1.heap.size + 1) :: [W.heap.size, b, W1.heap.size] := by
    have := HNS.out
    have := HE1.out.lt
    simp only [List.mem_cons, List.not_mem_nil, or_false]
    omega
  have hC6 := hT6.blk hnC (HC.out.below (ext_trans HB1.out HB5.out))
  have hE6 := hT6.blk hnE (HE1.out.below HB5.out)
  have HC6 := hid hC6
  have HE6 := hid hE6
  have HL6 := hid hL6
  have HBT : Hid (Turn [C, b] W W6) := hid ((Turn.of_below (ext_trans HB1.out HB5.out)).over hT6 (by
    intro y hy
    have := HNS.out
    rcases List.mem_cons.1 hy with e | hy
    · right; omega
    rcases List.mem_cons.1 hy with e | hy
    · right; omega
    rcases List.mem_cons.1 hy with e | hy
    · left; rw [e]; simp
    rcases List.mem_cons.1 hy with e | hy
    · right; omega
    cases hy))
  clear hrd hvx hvp hok6 hle6 hnC hnE hC6 hE6 hL6 hT6 HC HE1
  go_wp2_with fail
  refine HWR.out.mono ?_
  rintro e' W7 ⟨rfl, hb7⟩
  have hE7 := HE6.out.below hb7
  have hL7 := HL6.out.below hb7
  have hC7 := HC6.out.below hb7
  have HR7 := hid (show RdrAt W7 b s zr.at_ zr.err from Blk.below hb7 HRD.out)
  have HB7 := hid hb7
  have x0 := hE7.cell 0 (v := .int .u8 0) rfl
  have x1 := hE7.cell 1 (v := .int .i64 0) rfl
  have x2 := hE7.cell 2 (v := .int .i64 0) rfl
  have x3 := hE7.cell 3 (v := .int .i64 0) rfl
  have x4 := hE7.cell 4 (v := .int .i64 0) rfl
  have x5 := hE7.cell 5 (v := .int .i64 0) rfl
  have x6 := hE7.cell 6 (v := .int .u8 0) rfl
  have y0 := hE7.free 0
  have y1 := hE7.free 1
  have y2 := hE7.free 2
  have y3 := hE7.free 3
  have y4 := hE7.free 4
  have y5 := hE7.free 5
  have y6 := hE7.free 6
  have HE7 := hid hE7
  have HL7 := hid hL7
  have HC7 := hid hC7
  clear hE7 hL7 hC7 hb7 HE6 HL6 HC6 HRD HWR
  by_cases he : zr.err = 0
  · obtain ⟨ta, tb, tc, td⟩ := read_anew (T := T) (V := V) (S := S) (c := c) (s := byt s) (at_ := at_) (e := ze) (r' := zr) ⟨HTV.out.1.1, HTV.out.1.2, HTV.out.2.1.1, HTV.out.2.1.2, HTV.out.2.2.1, HTV.out.2.2.2⟩ HOK.out (byt_lt s) (Prod.ext HLR.out.1.symm HLR.out.2.symm) he
    have g1 : ((zr.err : Int) != 0) = false := by rw [he]; rfl
    obtain ⟨kind, eth, tx, ea, v, x, why⟩ := ze
    have hth0 : 0 ≤ eth := by
      have h1 := ta
      unfold tellsC at h1
      rw [Bool.and_eq_true] at h1
      obtain ⟨-, ⟨-, -, -, t1, -⟩, -⟩ := may_sizes' h1.1
      dsimp only at t1
      omega
    obtain ⟨th, rfl⟩ := Int.eq_ofNat_of_zero_le hth0
    obtain ⟨w1', w2', w3'⟩ := w_ats ta
    have l0 := HL7.out.cell 1 (v := .int .u8 kind) rfl
    have l1 := HL7.out.cell 2 (v := .int .i64 (th : Int)) rfl
    have l2 := HL7.out.cell 3 (v := .int .i64 tx) rfl
    have l3 := HL7.out.cell 4 (v := .int .i64 ea) rfl
    have l4 := HL7.out.cell 5 (v := .int .i64 v) rfl
    have l5 := HL7.out.cell 6 (v := .int .i64 x) rfl
    have l6 := HL7.out.cell 7 (v := .int .u8 why) rfl
    have HKN := hid (knows_any T V S c kind tx ea v x why th ea.toNat C W7 HC7.out w1' w2' w3')
    clear ta tb tc td hth0 w1' w2' w3' x0 x1 x2 x3 x4 x5 x6 y0 y1 y2 y3 y4 y5 y6
    go_wp2_with fail
    refine HKN.out.mono ?_
    rintro e' W8 ⟨rfl, hC8, hT8⟩
    have hs1 := HNS.out
    have hc1 := HNE.out
    have hl7 := HE7.out.lt
    have hll := HL7.out.lt
    have hx1 := HX1.out.lt
    have hE8 := hT8.blk (k := W.heap.size + 1) (by simp only [List.mem_cons, List.not_mem_nil, or_false]; omega) HE7.out
    have hL8 := hT8.blk (k := W1.heap.size + 1) (by simp only [List.mem_cons, List.not_mem_nil, or_false]; omega) HL7.out
    have hR8 : RdrAt W8 b s zr.at_ zr.err := Turn.blk hT8 (by simp only [List.mem_cons, List.not_mem_nil, or_false]; omega) HR7.out
    have l0 := hL8.cell 1 (v := .int .u8 kind) rfl
    have l1 := hL8.cell 2 (v := .int .i64 (th : Int)) rfl
    have l2 := hL8.cell 3 (v := .int .i64 tx) rfl
    have l3 := hL8.cell 4 (v := .int .i64 ea) rfl
    have l4 := hL8.cell 5 (v := .int .i64 v) rfl
    have l5 := hL8.cell 6 (v := .int .i64 x) rfl
    have l6 := hL8.cell 7 (v := .int .u8 why) rfl
    have x0 := hE8.cell 0 (v := .int .u8 0) rfl
    have y0 := hE8.free 0
    have x1 := hE8.cell 1 (v := .int .i64 0) rfl
    have y1 := hE8.free 1
    have x2 := hE8.cell 2 (v := .int .i64 0) rfl
    have y2 := hE8.free 2
    have x3 := hE8.cell 3 (v := .int .i64 0) rfl
    have y3 := hE8.free 3
    have x4 := hE8.cell 4 (v := .int .i64 0) rfl
    have y4 := hE8.free 4
    have x5 := hE8.cell 5 (v := .int .i64 0) rfl
    have y5 := hE8.free 5
    have x6 := hE8.cell 6 (v := .int .u8 0) rfl
    have y6 := hE8.free 6
    have hEL := hE8.lt
    have hLL := hL8.lt
    have HE8 := hid hE8
    have HR8 := hid hR8
    have HC8 := hid hC8
    have HT8 := hid hT8
    clear hE8 hL8 hR8 hC8 hT8
    go_wp2_with fail
    have hF := dset7 HE8.out (.int .u8 kind) (.int .i64 (th : Int)) (.int .i64 tx) (.int .i64 ea) (.int .i64 v) (.int .i64 x) (.int .u8 why)
    have q0 := hF.cell 0 (v := .int .u8 kind) rfl
    have q1 := hF.cell 1 (v := .int .i64 (th : Int)) rfl
    have q2 := hF.cell 2 (v := .int .i64 tx) rfl
    have q3 := hF.cell 3 (v := .int .i64 ea) rfl
    have q4 := hF.cell 4 (v := .int .i64 v) rfl
    have q5 := hF.cell 5 (v := .int .i64 x) rfl
    have q6 := hF.cell 6 (v := .int .u8 why) rfl
    exact bodyPost_ret (v := .tuple #[.agg #[.int .u8 kind, .int .i64 (th : Int), .int .i64 tx, .int .i64 ea, .int .i64 v, .int .i64 x, .int .u8 why], .int .i64 0]) (by simp [results, Tryd.results22, go_sem, q0, q1, q2, q3, q4, q5, q6]) rfl (by
      rw [HQ.out]
      have hrc : readC T V S c ⟨byt s, at_, 0⟩ = (⟨kind, (th : Int), tx, ea, v, x, why⟩, 0, zr, knowsC c ⟨kind, (th : Int), tx, ea, v, x, why⟩) := by
        unfold readC
        dsimp only
        rw [← HLR.out.2, if_neg (by rw [he]; decide), ← HLR.out.1]
      unfold ReadEP
      rw [hrc]
      refine ⟨rfl, dfar7 HC8.out (by omega) _ _ _ _ _ _ _, dfar7 HR8.out (by omega) _ _ _ _ _ _ _, ?_⟩
      exact dturn7 ((HBT.out.trans (Turn.of_below HB7.out)).trans (HT8.out.mono (by simp))) (by omega) _ _ _ _ _ _ _)
  · have g1 : ((zr.err : Int) != 0) = true := by rw [bne_iff_ne]; omega
    go_wp2_with fail
    have hF := dset7 HE7.out (.int .u8 0) (.int .i64 0) (.int .i64 0) (.int .i64 0) (.int .i64 0) (.int .i64 0) (.int .u8 0)
    have q0 := hF.cell 0 (v := .int .u8 0) rfl
    have q1 := hF.cell 1 (v := .int .i64 0) rfl
    have q2 := hF.cell 2 (v := .int .i64 0) rfl
    have q3 := hF.cell 3 (v := .int .i64 0) rfl
    have q4 := hF.cell 4 (v := .int .i64 0) rfl
    have q5 := hF.cell 5 (v := .int .i64 0) rfl
    have q6 := hF.cell 6 (v := .int .u8 0) rfl
    exact bodyPost_ret (v := .tuple #[.agg #[.int .u8 0, .int .i64 0, .int .i64 0, .int .i64 0, .int .i64 0, .int .i64 0, .int .u8 0], .int .i64 (zr.err : Int)]) (by simp [results, Tryd.results22, go_sem, q0, q1, q2, q3, q4, q5, q6]) rfl (by
      rw [HQ.out]
      have hrc : readC T V S c ⟨byt s, at_, 0⟩ = (⟨0, 0, 0, 0, 0, 0, 0⟩, zr.err, zr, c) := by
        unfold readC
        dsimp only
        rw [← HLR.out.2, if_pos he]
      unfold ReadEP
      rw [hrc]
      have hs1 := HNS.out
      have hc1 := HNE.out
      have hl7 := HE7.out.lt
      refine ⟨rfl, dfar7 HC7.out (by omega) _ _ _ _ _ _ _, dfar7 HR7.out (by omega) _ _ _ _ _ _ _, ?_⟩
      exact dturn7 (HBT.out.trans (Turn.of_below HB7.out)) (by omega) _ _ _ _ _ _ _)
end Go.Proofs.YtokkafiphchejaaDoor
/-
  Reading goes on, never back. Nothing of the program.
-/
namespace Go.Proofs.YtokkafiphchejaaDoor
set_option linter.unusedVariables false
set_option linter.unusedSimpArgs false
set_option linter.unusedVariables false
theorem numR_on (r : Rdr) (m : Nat) : r.at_ ≤ (numR r m).2.at_ := by
  unfold numR
  split
  · exact Nat.le_refl _
  · split
    split
    · exact Nat.le_refl _
    · split
      · exact Nat.le_refl _
      · exact Nat.le_add_right _ _
theorem failR_on {r : Rdr} {p q : Nat} (h1 : q ≤ r.at_) (h2 : q ≤ p) : q ≤ (failR r p).at_ := by
  unfold failR
  split
  · exact h1
  · exact h2
theorem lineR_on (T V S : Int) (c : Cdr) (r : Rdr) : r.at_ ≤ (lineR T V S c r).2.at_ := by
  unfold lineR
  dsimp only
  have h0 := numR_on r (13 * T - 1).toNat
  generalize numR r (13 * T - 1).toNat = a at h0 ⊢
  obtain ⟨n, ra⟩ := a
  dsimp only at h0 ⊢
  have h2 : ∀ (m m' : Nat), r.at_ ≤ (numR (numR ra m).2 m').2.at_ := fun m m' => Nat.le_trans h0 (Nat.le_trans (numR_on ra m) (numR_on _ m'))
  have h1 : ∀ (m : Nat), r.at_ ≤ (numR ra m).2.at_ := fun m => Nat.le_trans h0 (numR_on ra m)
  repeat' split
  all_goals (dsimp only)
  all_goals first
    | exact h2 _ _
    | exact h1 _
    | exact h0
    | exact failR_on (h1 _) h0
    | (split; · exact failR_on (h1 _) h0
       · exact h1 _)
theorem readC_on (T V S : Int) (c : Cdr) (r : Rdr) : r.at_ ≤ (readC T V S c r).2.2.1.at_ := by
  unfold readC
  dsimp only
  split
  · exact lineR_on T V S c r
  · exact lineR_on T V S c r
end Go.Proofs.YtokkafiphchejaaDoor
/-
  A step of reading: what was read, and what is written of it.
-/
namespace Go.Proofs.YtokkafiphchejaaDoor
set_option linter.unusedVariables false
set_option linter.unusedSimpArgs false
set_option linter.unusedVariables false
open Go Go.RowKit
theorem dbyt_head (s : ByteArray) (b : Nat) : byt (s.extract 0 b) = (byt s).take b := by
  unfold byt
  rw [ByteArray.data_extract, Array.toList_extract, List.map_take, List.map_drop]
  simp
theorem dext_head (s : ByteArray) (b : Nat) : bstr ((byt s).take b) = s.extract 0 b := by
  rw [← dbyt_head, bstr_byt]
theorem dcmp_byt (a b : ByteArray) : (a.toList == b.toList) = decide (byt a = byt b) := by
  rw [ByteArray.toList_eq, ByteArray.toList_eq, Bool.eq_iff_iff, beq_iff_eq, decide_eq_true_iff]
  constructor
  · intro h; unfold byt; rw [h]
  · intro h; rw [byt_inj h]
theorem told_evOk {T V S : Int} {c : Cdr} {e : Ev} (ht : tellsC T V S c e = true) (hx : -9223372036854775808 ≤ e.x ∧ e.x ≤ 9223372036854775807) : EvOk e := by
  unfold tellsC at ht
  rw [Bool.and_eq_true] at ht
  obtain ⟨⟨s1, s2, s3, s4, s5, s6⟩, ⟨k1, k2, hw, t1, t2, x1, x2, v1, v2, a1, a2⟩, hb⟩ := may_sizes' ht.1
  have hv : -1 ≤ leastV e := by unfold leastV; split <;> omega
  have hp : placesE e V S ≤ 32 := by unfold placesE; repeat' split
                                     all_goals omega
  have hwhy : 0 ≤ e.why ∧ e.why ≤ 255 := by
    by_cases h10 : e.kind = 10
    · have := hw h10; omega
    · have hz : e.why = (bareE e).why := by rw [← hb]
      have : (bareE e).why = 0 := by
        unfold bareE
        repeat' split
        all_goals first | rfl | (exfalso; omega)
      omega
  exact ⟨⟨by omega, by omega⟩, ⟨by omega, by omega⟩, ⟨by omega, by omega⟩, ⟨by omega, by omega⟩, ⟨by omega, by omega⟩, hx, hwhy⟩
/-- What is read: nothing, and why; or an event. -/
theorem readC_two {T V S : Int} {c : Cdr} {s : List Nat} {at_ : Nat} (hsz : 1 ≤ T ∧ T ≤ 6 ∧ 1 ≤ V ∧ V ≤ 32 ∧ 1 ≤ S ∧ S ≤ V) (hc : OkC T c) (hs : ∀ b ∈ s, b < 256) (ha : at_ ≤ s.length) :
    (∃ r' : Rdr, r'.err ≠ 0 ∧ at_ ≤ r'.at_ ∧ readC T V S c ⟨s, at_, 0⟩ = (⟨0, 0, 0, 0, 0, 0, 0⟩, r'.err, r', c)) ∨
    (∃ (e : Ev) (n : Nat), n = (bytesC T c e).length ∧ tellsC T V S c e = true ∧ EvOk e ∧ OkC T (knowsC c e) ∧ at_ + n ≤ s.length ∧ s.take at_ ++ bytesC T c e = s.take (at_ + n) ∧ readC T V S c ⟨s, at_, 0⟩ = (e, 0, ⟨s, at_ + n, 0⟩, knowsC c e)) := by
  obtain ⟨⟨e, r'⟩, hz⟩ : ∃ z, lineR T V S c ⟨s, at_, 0⟩ = z := ⟨_, rfl⟩
  have hon := lineR_on T V S c ⟨s, at_, 0⟩
  rw [hz] at hon
  dsimp only at hon
  by_cases he : r'.err = 0
  · right
    obtain ⟨h1, h2, h3, h4⟩ := read_anew hsz hc hs hz he
    have hlen : (bytesC T c e).length ≤ s.length - at_ := by
      have := congrArg List.length h4
      rw [List.length_take, List.length_drop] at this
      omega
    refine ⟨e, _, rfl, h1, told_evOk h1 h2, okC_knows hc h1 h2, by omega, ?_, ?_⟩
    · rw [← h4, h4]
      conv => lhs; rw [← h4]
      rw [List.take_add]
    · unfold readC
      dsimp only
      rw [hz]
      dsimp only
      rw [if_neg (by omega), h3]
  · left
    refine ⟨r', he, hon, ?_⟩
    unfold readC
    dsimp only
    rw [hz]
    dsimp only
    rw [if_pos he]
end Go.Proofs.YtokkafiphchejaaDoor
