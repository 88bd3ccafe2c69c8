/-
  Walk: awake.
-/
import Derived.Test.YtokkafiphchejaaDoorDeLa
import Derived.Test.YtokkafiphchejaaDoorDeW5
namespace Go.Proofs.YtokkafiphchejaaDoor
set_option linter.unusedVariables false
set_option linter.unusedSimpArgs false
set_option linter.unusedVariables false
open Go Go.RowKit
theorem write_is {T V S : Int} {c : Cdr} {e : Ev} (C b : Nat) (most : Int) (bs : List Nat) (base : Nat) (u : Value) (W : World) (hok : EvOk e) (hC : Blk W C (cdrA T V S c) 74) (hKd : KindsAt W) (hT : 1 ≤ T ∧ T ≤ 6) (hV : 1 ≤ V ∧ V ≤ 32) (hS : 1 ≤ S ∧ S ≤ 32)
    (hc : OkC T c) (ht : tellsC T V S c e = true) (hw : WrtO W b most bs base u) (hCb : C ≠ b) (hCbase : C < base) (hbase : base ≤ W.heap.size) (hl : bs.length ≤ 16777216) (hm : 0 ≤ most ∧ most ≤ 16777216) (hfit : (bs.length : Int) + 12 ≤ most) :
    Calls Tryd.prog 12 #[.pointer (some ⟨C, 0, none⟩), .pointer (some ⟨b, 0, none⟩), evA e] W (WriteP T V S (knowsC c e) C b most (bs ++ bytesC T c e) base u W) := by
  have ht' := ht
  unfold tellsC at ht'
  rw [Bool.and_eq_true] at ht'
  obtain ⟨hs, ⟨k1, k2, hw', t1, t2, -⟩, -⟩ := may_sizes' ht'.1
  obtain ⟨kind, th, tx, at_, v, x, why⟩ := e
  dsimp only at t1
  obtain ⟨n, rfl⟩ := Int.eq_ofNat_of_zero_le t1
  exact write_yes T V S c kind tx at_ v x why n C b most bs base u W hok hC hKd hT hV hS hc ht hw hCb hCbase hbase hl hm hfit
theorem WrtO.new {W : World} {b : Nat} {m : Int} (h : Blk W b #[.int .i64 m, .slice none 0 0] 77) : WrtO W b m [] (b + 1) (.slice none 0 0) :=
  ⟨h, World.ownsRow_nil _ _ _ _, by omega⟩
/-- A coder and a writer, as Write finds them. -/
structure Wd (T V S : Int) (c : Cdr) (C b : Nat) (most : Int) (bs : List Nat) (base : Nat) (u : Value) (W : World) : Prop where
  co : Blk W C (cdrA T V S c) 74
  wr : WrtO W b most bs base u
  ok : OkC T c
  sz : (1 ≤ T ∧ T ≤ 6) ∧ (1 ≤ V ∧ V ≤ 32) ∧ (1 ≤ S ∧ S ≤ 32)
  ne : C ≠ b
  lt : C < base
  le : base ≤ W.heap.size
  mo : 0 ≤ most ∧ most ≤ 16777216
theorem Wd.turn {T V S : Int} {c : Cdr} {C b : Nat} {most : Int} {bs : List Nat} {base : Nat} {u : Value} {l : List Nat} {W W' : World} (h : Wd T V S c C b most bs base u W) (ht : Turn l W W') (h1 : C ∉ l) (h2 : b ∉ l) (h3 : ∀ g, u.ownBlock = some g → g ∉ l) : Wd T V S c C b most bs base u W' :=
  ⟨ht.blk h1 h.co, h.wr.turn ht h2 h3, h.ok, h.sz, h.ne, h.lt, Nat.le_trans h.le ht.size, h.mo⟩
theorem Wd.below {T V S : Int} {c : Cdr} {C b : Nat} {most : Int} {bs : List Nat} {base : Nat} {u : Value} {W W' : World} (h : Wd T V S c C b most bs base u W) (hb : Below W.heap.size W W') : Wd T V S c C b most bs base u W' :=
  h.turn (Turn.of_below (l := []) hb) (by simp) (by simp) (by simp)
/-- Blocks ahead of a bound have not turned, but for a few. -/
theorem Wd.low {T V S : Int} {c : Cdr} {C b : Nat} {most : Int} {bs : List Nat} {base : Nat} {u : Value} {W W' : World} (h : Wd T V S c C b most bs base u W) (ht : Turn (C :: b :: u.ownBlock.toList) W W') {B : Nat} (h1 : B ≤ C) (h2 : B ≤ b) : Below B W W' := by
  refine ht.below (fun x hx => ?_) (by have := h.co.lt; omega)
  rcases List.mem_cons.1 hx with e | hx
  · omega
  rcases List.mem_cons.1 hx with e | hx
  · omega
  have := (h.wr.own.lt x (by simpa using hx)).1
  have := h.lt
  omega
def WrYes (T V S : Int) (c : Cdr) (e : Ev) (C b : Nat) (most : Int) (bs : List Nat) (base : Nat) (u : Value) (W : World) (e' : Ending) (W' : World) : Prop :=
  e' = .returned (.int .i64 0) ∧ ∃ u', Wd T V S (knowsC c e) C b most (bs ++ bytesC T c e) base u' W' ∧ (u'.ownBlock = u.ownBlock ∨ ∃ g, u'.ownBlock = some g ∧ W.heap.size ≤ g) ∧ Turn (C :: b :: u.ownBlock.toList) W W'
theorem wr_yes {T V S : Int} {c : Cdr} {C b : Nat} {most : Int} {bs : List Nat} {base : Nat} {u : Value} {W : World} (h : Wd T V S c C b most bs base u W) (hKd : KindsAt W) {e : Ev} (hok : EvOk e) (ht : tellsC T V S c e = true) (hl : bs.length ≤ 16777216) (hfit : (bs.length : Int) + 12 ≤ most) :
    Calls Tryd.prog 12 #[.pointer (some ⟨C, 0, none⟩), .pointer (some ⟨b, 0, none⟩), evA e] W (WrYes T V S c e C b most bs base u W) := by
  refine (write_is C b most bs base u W hok h.co hKd h.sz.1 h.sz.2.1 h.sz.2.2 h.ok ht h.wr h.ne h.lt h.le hl h.mo hfit).mono fun e' W' hh => ?_
  obtain ⟨r, hc, u', hw, hu, hT⟩ := hh
  exact ⟨r, u', ⟨hc, hw, okC_knows h.ok ht hok.2.2.2.2.2.1, h.sz, h.ne, h.lt, Nat.le_trans h.le hT.size, h.mo⟩, hu, hT⟩
theorem wr_no {T V S : Int} {c : Cdr} {C b : Nat} {most : Int} {bs : List Nat} {base : Nat} {u : Value} {W : World} (h : Wd T V S c C b most bs base u W) (hKd : KindsAt W) {e : Ev} (hok : EvOk e) (ht : tellsC T V S c e = false) :
    Calls Tryd.prog 12 #[.pointer (some ⟨C, 0, none⟩), .pointer (some ⟨b, 0, none⟩), evA e] W fun e' W' => e' = .returned (.int .i64 4) ∧ Below W.heap.size W W' :=
  write_no T V S c e C b W hok h.co hKd h.sz.1 h.sz.2.1 h.sz.2.2 ht
set_option maxRecDepth 100000 in
set_option maxHeartbeats 4000000 in
theorem awake_any (W : World) (hKd : KindsAt W) : Calls Tryd.prog 9 #[] W fun e' W' => e' = .returned (.bool true) ∧ Below W.heap.size W W' := by
  have HN := hid (new_any 2 3 2 W hKd (by decide))
  have HK := hid hKd
  clear hKd
  obtain ⟨Q, hQ⟩ : ∃ Q : Ending → World → Prop, Q = fun e' W' => e' = .returned (.bool true) ∧ Below W.heap.size W W' := ⟨_, rfl⟩
  rw [← hQ]
  have HQ := hid hQ
  clear hQ
  go_enter Tryd.func9, Tryd.ntmps9
  go_wp2_with fail
  refine HN.out.mono ?_
  rintro e' W1 ⟨C, rfl, hC0, hC, hb1⟩
  have HC := hid hC
  have HC0 := hid hC0
  have HB1 := hid hb1
  clear hC hC0 hb1
  go_wp2_with fail
  refine (newWriter_any 100 W1 ⟨by omega, by omega⟩).mono ?_
  rintro e' W2 ⟨rfl, hw2, hb2⟩
  have hb02 := ext_trans HB1.out hb2
  have D0 : Wd 2 3 2 newC C W1.heap.size 100 [] (W1.heap.size + 1) (.slice none 0 0) W2 := ⟨HC.out.below hb2, WrtO.new hw2, okC_new (by omega), ⟨⟨by omega, by omega⟩, ⟨by omega, by omega⟩, ⟨by omega, by omega⟩⟩, by have := HC.out.lt; omega, by have := HC.out.lt; omega, hw2.lt, ⟨by omega, by omega⟩⟩
  have hb0 := HB1.out.size
  obtain ⟨b, hb⟩ : ∃ b, b = W1.heap.size := ⟨_, rfl⟩
  rw [← hb] at D0 hb0 ⊢
  clear hb hw2 hb2
  have HB0 := hid hb0
  have HD0 := hid D0
  have HB02 := hid hb02
  clear D0 hb0 hb02
  have HW1 := hid (wr_yes HD0.out (HK.out.below HB02.out) (e := ⟨1, 1, 0, 0, 5, 0, 0⟩) (by unfold EvOk; dsimp only; omega) rfl (by simp) (by simp))
  dsimp only [evA] at HW1
  go_wp2_with fail
  refine HW1.out.mono ?_
  rintro e' W3 ⟨rfl, u1, hd, -, hT⟩
  have hb3 := HB02.out.trans (HD0.out.low hT HC0.out HB0.out)
  have HD1 := hid hd
  have HB03 := hid hb3
  clear hd hT hb3
  have HW2 := hid (wr_yes HD1.out (HK.out.below HB03.out) (e := ⟨2, 1, 0, 1, 3, 0, 0⟩) (by unfold EvOk; dsimp only; omega) rfl (by decide) (by decide))
  dsimp only [evA] at HW2
  go_wp2_with fail
  refine HW2.out.mono ?_
  rintro e' W4 ⟨rfl, u2, hd, -, hT⟩
  have hb4 := HB03.out.trans (HD1.out.low hT HC0.out HB0.out)
  have HD2 := hid hd
  have HB04 := hid hb4
  clear hd hT hb4
  have HW3 := hid (wr_yes HD2.out (HK.out.below HB04.out) (e := ⟨3, 1, 0, 1, 0, -4, 0⟩) (by unfold EvOk; dsimp only; omega) rfl (by decide) (by decide))
  dsimp only [evA] at HW3
  go_wp2_with fail
  refine HW3.out.mono ?_
  rintro e' W5 ⟨rfl, u3, hd, -, hT⟩
  have hb5 := HB04.out.trans (HD2.out.low hT HC0.out HB0.out)
  have HD3 := hid hd
  have HB05 := hid hb5
  clear hd hT hb5
  have HTX := hid (wText_any b 100 _ W5 HD3.out.wr.wrt (by decide))
  go_wp2_with fail
  refine HTX.out.mono ?_
  rintro e' W6 ⟨rfl, rfl⟩
  go_wp2_with fail
  rw [HQ.out]
  exact ⟨by kernel_rfl, HB05.out⟩
end Go.Proofs.YtokkafiphchejaaDoor
