/-
 Walk: trace.Encode.
-/
import Derived.Test.YtnblhodhkifeeaaGreatDoorTbGL
import Derived.Test.YtnblhodhkifeeaaGreatDoorTrGF
import Derived.Test.YtnblhodhkifeeaaGreatDoorTrGV
import Derived.Test.YtnblhodhkifeeaaGreatDoorTrGP
namespace Go.Proofs.YtnblhodhkifeeaaGreatDoor
set_option linter.unusedVariables false
set_option linter.unusedSimpArgs false
open Go Go.RowKit
set_option maxRecDepth 100000 in
set_option maxHeartbeats 4000000 in
theorem wnumM_any (b : Nat) (most : Int) (bs : List Nat) (base : Nat) (v : Value) (n : Nat) (W : World) (h : WrtO W b most bs base v) (hn : n < 18446744073709551616) (hl : bs.length ≤ 16777216) (hm : 0 ≤ most ∧ most ≤ 16777216) (hfit : (bs.length : Int) + 10 ≤ most) (hbase : base ≤ W.heap.size) :
  Calls Tryz.prog 24 #[.pointer (some ⟨b, 0, none⟩), .int .u64 (n : Int)] W (RawP b most (bs ++ putN n) base v W) := by
 have HP := hid (vput_any n W hn)
 have hpl := putN_ten n
 have hpp : 0 < (putN n).length := putN_pos n
 have HRAW := hid (fun (s : ByteArray) (hs : byt s = putN n) (W' : World) (hb : Below W.heap.size W W') => raw_any b most bs base v s W' (h.below hb) (by rw [← byt_len, hs]; exact hpp) (by rw [← byt_len, hs]; omega) hl hm (by rw [← byt_len, hs]; omega) (Nat.le_trans hbase hb.size))
 have HW := hid h
 clear h hn hl hm hfit hbase hpl hpp
 obtain ⟨Q, hQ⟩ : ∃ Q, Q = RawP b most (bs ++ putN n) base v W := ⟨_, rfl⟩
 rw [← hQ]
 have HQ := hid hQ
 clear hQ
 go_enter Tryz.func24, Tryz.ntmps24
 go_wp2_with fail
 refine HP.out.mono ?_
 rintro e' w1 ⟨s, rfl, hs, hb1⟩
 have HR := hid (HRAW.out s hs w1 hb1)
 rw [hs] at HR
 have HB := hid hb1
 clear hb1 hs
 go_wp2_with fail
 refine HR.out.mono ?_
 rintro e' w2 ⟨rfl, v', hw, hv, hT⟩
 go_wp2_with fail
 rw [HQ.out]
 refine ⟨rfl, v', hw, ?_, (Turn.of_below HB.out).trans hT⟩
 rcases hv with e | ⟨g, e, hg⟩
 ·exact Or.inl e
 ·exact Or.inr ⟨g, e, Nat.le_trans HB.out.size hg⟩
theorem enc_res {T V S : Int} {l : List Ev} {w w' : World} {s : ByteArray} (hc : (checkT T V S l).2 = 0) (hs : s = bstr (frameL (bodyL T V S l))) (hb : Below w.heap.size w w') :
  (.returned (.tuple #[.string s, .int .i64 0]) : Ending) = .returned (.tuple #[.string (if (checkT T V S l).2 = 0 then bstr (frameL (bodyL T V S l)) else ⟨#[]⟩), .int .i64 (checkT T V S l).2]) ∧ Below w.heap.size w w' := by
 rw [if_pos hc, hc, hs]
 exact ⟨rfl, hb⟩
def numsT (T V S : Int) (l : List Ev) : List Nat := [T.toNat, V.toNat, S.toNat, l.length]
def EncP (T V S : Int) (l : List Ev) (w : World) (e' : Ending) (w' : World) : Prop :=
 e' = .returned (.tuple #[.string (if (checkT T V S l).2 = 0 then bstr (frameL (bodyL T V S l)) else ⟨#[]⟩), .int .i64 (checkT T V S l).2]) ∧ Below w.heap.size w w'
set_option maxRecDepth 100000 in
set_option maxHeartbeats 4000000 in
theorem enc_no (T V S : Int) (a : Option Addr) (l : List Ev) (cap : Nat) (w : World) (hE : EvsAt w a l) (hK : KindsAt w) (hT : TabOk w) (hc : (checkT T V S l).2 ≠ 0) : Calls Tryz.prog 12 #[trA T V S a l.length cap] w (EncP T V S l w) := by
 obtain ⟨W1, hW1⟩ : ∃ W1, W1 = w.alloc (.cells #[.int .i64 T, .int .i64 V, .int .i64 S, .slice a l.length cap] 25) := ⟨_, rfl⟩
 have hb1 : Below w.heap.size w W1 := by rw [hW1]; exact ext_alloc (ext_refl _) _
 have HCK := hid (check_all T V S a l cap W1 (hE.below hb1) (hK.below hb1) (hT.below hb1))
 obtain ⟨Q, hQ⟩ : ∃ Q : Ending → World → Prop, Q = EncP T V S l w := ⟨_, rfl⟩
 rw [← hQ]
 have HQ := hid hQ
 have HB1 := hid hb1
 have HC := hid hc
 have HW1 := hid hW1
 have g1 : ((checkT T V S l).2 != 0) = true := by rw [bne_iff_ne]; exact hc
 have g2 : ((checkT T V S l).2 == 0) = false := by rw [beq_eq_false_iff_ne]; exact hc
 dsimp only [trA] at HCK ⊢
 obtain ⟨p, hp⟩ : ∃ p, p = (checkT T V S l).1 := ⟨_, rfl⟩
 obtain ⟨q, hq⟩ : ∃ q, q = (checkT T V S l).2 := ⟨_, rfl⟩
 rw [← hp, ← hq] at HCK
 rw [← hq] at g1 g2
 have HQQ := hid hq
 clear hE hK hT hc hQ hb1 hW1 hp hq
 go_enter Tryz.func12, Tryz.ntmps12
 go_wp2_with fail
 rw [← HW1.out]
 refine HCK.out.mono ?_
 rintro e' w2 ⟨rfl, hb2⟩
 go_wp2_with fail
 rw [HQ.out]
 unfold EncP
 rw [if_neg HC.out, ← HQQ.out]
 exact ⟨rfl, ext_trans HB1.out hb2⟩
structure EnI (T V S : Int) (l : List Ev) (a : Option Addr) (cap : Nat) (w : World) (bs : List Nat) (b : Nat) (u : Value) (wr : World) : Prop where
 bx : Blk wr w.heap.size #[.int .i64 T, .int .i64 V, .int .i64 S, .slice a l.length cap] 25
 wt : WrtO wr b 16777216 bs (b + 1) u
 be : Below w.heap.size w wr
 lt : w.heap.size < b ∧ b + 1 ≤ wr.heap.size
theorem EnI.below {T V S : Int} {l : List Ev} {a : Option Addr} {cap : Nat} {w : World} {bs : List Nat} {b : Nat} {u : Value} {wr w' : World} (h : EnI T V S l a cap w bs b u wr) (hb : Below wr.heap.size wr w') : EnI T V S l a cap w bs b u w' :=
 ⟨h.bx.below hb, h.wt.below hb, ext_trans h.be hb, h.lt.1, Nat.le_trans h.lt.2 hb.size⟩
theorem EnI.raw {T V S : Int} {l : List Ev} {a : Option Addr} {cap : Nat} {w : World} {bs bs' : List Nat} {b : Nat} {u u' : Value} {wr w' : World} (h : EnI T V S l a cap w bs b u wr) (hw : WrtO w' b 16777216 bs' (b + 1) u') (hT : Turn (b :: u.ownBlock.toList) wr w') : EnI T V S l a cap w bs' b u' w' := by
 have hn : ∀ k, k < b → k ∉ b :: u.ownBlock.toList := by
  intro k hk hm
  rcases List.mem_cons.1 hm with e | hm
  ·omega
  ·have := (h.wt.own.lt k (by simpa using hm)).1; omega
 refine ⟨hT.blk (hn _ h.lt.1) h.bx, hw, h.be.trans (hT.below (fun x hx => ?_) h.be.size), h.lt.1, Nat.le_trans h.lt.2 hT.size⟩
 rcases Nat.lt_or_ge x w.heap.size with h' | h'
 ·exact absurd hx (hn x (by have := h.lt.1; omega))
 ·exact h'
theorem nums_len (T V S : Int) (l : List Ev) : (numsT T V S l).length = 4 := rfl
theorem flat4 (ns : List Nat) (k : Nat) (h : k < ns.length) : (ns.take (k + 1)).flatMap putN = (ns.take k).flatMap putN ++ putN ns[k] := by
 rw [List.take_succ_eq_append_getElem h, List.flatMap_append]
 simp
theorem pflat_len : ∀ (ns : List Nat), (ns.flatMap putN).length ≤ 10 * ns.length
 | [] => by simp
 | n :: ns => by
  have := pflat_len ns
  have := putN_ten n
  rw [List.flatMap_cons, List.length_append, List.length_cons]
  omega
theorem body_flat (T V S : Int) (l : List Ev) : (numsT T V S l).flatMap putN ++ bytesAll T newC l = bodyL T V S l := by
 unfold numsT bodyL
 simp
set_option maxRecDepth 100000 in
set_option maxHeartbeats 4000000 in
theorem enc_ok (T V S : Int) (a : Option Addr) (l : List Ev) (cap : Nat) (w : World) (hE : EvsAt w a l) (hK : KindsAt w) (hT : TabOk w) (hc : (checkT T V S l).2 = 0) : Calls Tryz.prog 12 #[trA T V S a l.length cap] w (EncP T V S l w) := by
 obtain ⟨W1, hW1⟩ : ∃ W1, W1 = w.alloc (.cells #[.int .i64 T, .int .i64 V, .int .i64 S, .slice a l.length cap] 25) := ⟨_, rfl⟩
 have hb1 : Below w.heap.size w W1 := by rw [hW1]; exact ext_alloc (ext_refl _) _
 have hx1 : Blk W1 w.heap.size #[.int .i64 T, .int .i64 V, .int .i64 S, .slice a l.length cap] 25 := by rw [hW1]; exact Blk.new _ _ _
 have HCK := hid (check_all T V S a l cap W1 (hE.below hb1) (hK.below hb1) (hT.below hb1))
 have hxs : ∀ e ∈ l, -9223372036854775808 ≤ e.x ∧ e.x ≤ 9223372036854775807 := fun e he => (hE.1 e he).2.2.2.2.2.1
 have HTO := hid (told_of_check hxs hc)
 have HLN := hid (bodyL_len hxs hc)
 have hsz : 0 ≤ T ∧ T ≤ 6 ∧ 1 ≤ V ∧ V ≤ 32 ∧ 1 ≤ S ∧ S ≤ V := by have := HTO.out.1; unfold sizeOk at this; exact of_decide_eq_true this
 obtain ⟨Q, hQ⟩ : ∃ Q : Ending → World → Prop, Q = EncP T V S l w := ⟨_, rfl⟩
 rw [← hQ]
 have HQ := hid hQ
 have HB1 := hid hb1
 have HX1 := hid hx1
 have HC := hid hc
 have HW1 := hid hW1
 have HE := hid hE
 have HK := hid hK
 have HSZ := hid hsz
 dsimp only [trA] at HCK ⊢
 rw [hc] at HCK
 obtain ⟨p, hp⟩ : ∃ p, p = (checkT T V S l).1 := ⟨_, rfl⟩
 rw [← hp] at HCK
 clear hE hK hT hc hQ hb1 hx1 hW1 hp hsz hxs
 go_enter Tryz.func12, Tryz.ntmps12
 go_wp2_with fail
 rw [← HW1.out]
 refine HCK.out.mono ?_
 rintro e' W2 ⟨rfl, hb2⟩
 have HB2 := hid (ext_trans HB1.out hb2)
 have HX2 := hid (HX1.out.below hb2)
 clear hb2 HCK HW1
 go_wp2_with fail
 refine (newWriter_any 16777216 W2 ⟨by omega, by omega⟩).mono ?_
 rintro e' W3 ⟨rfl, hw3, hb3⟩
 have I0 : EnI T V S l a cap w [] W2.heap.size (.slice none 0 0) W3 := ⟨HX2.out.below hb3, WrtO.new hw3, ext_trans HB2.out hb3, HX2.out.lt, hw3.lt⟩
 generalize W2.heap.size = b at I0 ⊢
 have x0 := I0.bx.cell 0 (v := .int .i64 T) rfl
 have x1 := I0.bx.cell 1 (v := .int .i64 V) rfl
 have x2 := I0.bx.cell 2 (v := .int .i64 S) rfl
 have x3 := I0.bx.cell 3 (v := .slice a l.length cap) rfl
 obtain ⟨W4, hW4⟩ : ∃ W4, W4 = W3.alloc (.cells #[.int .i64 T, .int .i64 V, .int .i64 S, .int .i64 (l.length : Int)] 3) := ⟨_, rfl⟩
 have hb4 : Below W3.heap.size W3 W4 := by rw [hW4]; exact ext_alloc (ext_refl _) _
 have hn4 : Blk W4 W3.heap.size #[.int .i64 T, .int .i64 V, .int .i64 S, .int .i64 (l.length : Int)] 3 := by rw [hW4]; exact Blk.new _ _ _
 have HI := hid (I0.below hb4)
 have HNB : Hid (b < W3.heap.size) := hid (by have := I0.lt.2; omega)
 have HN4 := hid hn4
 have HW4 := hid hW4
 clear I0 hb3 hw3 hb4 hn4 hW4 HB1 HX1 HB2 HX2
 go_wp2_with (rw [← HW4.out]; go_simp)
 clear x0 x1 x2 x3 HW4
 generalize W3.heap.size = nb at HN4 HNB ⊢
 have hcell : ∀ (wr : World), Blk wr nb #[.int .i64 T, .int .i64 V, .int .i64 S, .int .i64 (l.length : Int)] 3 → ∀ k (h : k < (numsT T V S l).length), wr.cell? ⟨nb, k, none⟩ = some (.int .i64 ((numsT T V S l)[k] : Int)) := by
  intro wr hb k hk
  have hs := HSZ.out
  match k, hk with
  | 0, _ => exact (hb.cell 0 (v := .int .i64 T) rfl).trans (by show _ = some (Value.int .i64 ((T.toNat : Nat) : Int)); congr 2; omega)
  | 1, _ => exact (hb.cell 1 (v := .int .i64 V) rfl).trans (by show _ = some (Value.int .i64 ((V.toNat : Nat) : Int)); congr 2; omega)
  | 2, _ => exact (hb.cell 2 (v := .int .i64 S) rfl).trans (by show _ = some (Value.int .i64 ((S.toNat : Nat) : Int)); congr 2; omega)
  | 3, _ => exact hb.cell 3 (v := .int .i64 (l.length : Int)) rfl
 have hsmall : ∀ k (h : k < (numsT T V S l).length), (numsT T V S l)[k] ≤ 1048576 := by
  intro k hk
  have hs := HSZ.out
  have hl := HLN.out.2
  match k, hk with
  | 0, _ => show T.toNat ≤ 1048576; omega
  | 1, _ => show V.toNat ≤ 1048576; omega
  | 2, _ => show S.toNat ≤ 1048576; omega
  | 3, _ => exact hl
 have HCELL := hid hcell
 have HSM := hid hsmall
 clear hcell hsmall
 go_loopw [41] (fun i wr => ∃ (k : Nat) (u : Value), k ≤ 4 ∧ i = .int .i64 (k : Int) ∧ Hid (EnI T V S l a cap w (((numsT T V S l).take k).flatMap putN) b u wr) ∧ Hid (Blk wr nb #[.int .i64 T, .int .i64 V, .int .i64 S, .int .i64 (l.length : Int)] 3) ∧ Hid (∀ g, u.ownBlock = some g → nb < g)) (fun i _ => 4 - (intOf i).toNat)
 case atStart => exact ⟨0, _, by omega, rfl, HI, HN4, hid (by intro g hg; simp [Value.ownBlock] at hg)⟩
 case round =>
  clear HI HN4
  obtain ⟨k, u, hk, rfl, HI, HN, HU⟩ := hrel
  by_cases hlt : k < 4
  ·have j1 : decide ((k : Int) < 4) = true := by rw [decide_eq_true_iff]; omega
   have j2 : (0 : Int) ≤ (k : Int) := by omega
   have j4 : (k : Int) < 4 := by omega
   have j3 : IntKind.i64.wrap ((k : Int) + 1) = (k : Int) + 1 := IntWalk.i64_in _ (by omega)
   have c0 := HCELL.out wr HN.out k (by rw [nums_len]; exact hlt)
   have hs0 := HSM.out k (by rw [nums_len]; exact hlt)
   have hfl := flat4 (numsT T V S l) k (by rw [nums_len]; exact hlt)
   generalize (numsT T V S l)[k] = n at c0 hs0 hfl
   have j5 : IntKind.u64.wrap (n : Int) = (n : Int) := by simp [IntKind.wrap, IntKind.bits, IntKind.signed]; omega
   have hbl : (((numsT T V S l).take k).flatMap putN).length ≤ 40 := by
    have := pflat_len ((numsT T V S l).take k)
    rw [List.length_take, nums_len] at this
    omega
   have HNUM := hid (wnumM_any b 16777216 _ (b + 1) u n wr HI.out.wt (by omega) (by omega) ⟨by omega, by omega⟩ (by omega) HI.out.lt.2)
   rw [← hfl] at HNUM
   have HLT := hid hlt
   clear hs0 hfl hbl hlt hk
   go_wp2_with fail
   refine HNUM.out.mono ?_
   rintro e' w5 ⟨rfl, u', hw, hu, hT⟩
   have HI5 := hid (HI.out.raw hw hT)
   have hnl := HN.out.lt
   have hni : nb ∉ b :: u.ownBlock.toList := by
    intro hm
    rcases List.mem_cons.1 hm with e | hm
    ·have := HNB.out; omega
    ·have := HU.out nb (by simpa using hm); omega
   have HN5 := hid (hT.blk hni HN.out)
   have HU5 := hid (show ∀ g, u'.ownBlock = some g → nb < g from fun g hg => by
    rcases hu with e | ⟨g', e, hg'⟩
    ·exact HU.out g (by rw [← e]; exact hg)
    ·rw [hg] at e; cases e; omega)
   clear hw hu hT hnl hni HI HN HU HNUM c0
   go_wp2_with fail
   go_roundw
   case rel => exact ⟨k + 1, u', by have := HLT.out; omega, by simp, HI5, HN5, HU5⟩
   case measure => have := HLT.out; simp [intOf]; omega
  ·obtain rfl : k = 4 := by omega
   have j1 : decide (((4 : Nat) : Int) < 4) = false := by decide
   have hfl : ((numsT T V S l).take 4).flatMap putN = (numsT T V S l).flatMap putN := rfl
   rw [hfl] at HI
   have x3 := HI.out.bx.cell 3 (v := .slice a l.length cap) rfl
   clear hfl hlt hk HN HU HCELL HSM
   by_cases hl0 : l = []
   ·subst hl0
    have hbd : (numsT T V S []).flatMap putN = bodyL T V S [] := by rw [← body_flat]; simp [bytesAll]
    have HTX := hid (wText_any b 16777216 _ wr HI.out.wt.wrt (by rw [hbd]; exact bodyL_byte T V S []))
    rw [hbd] at HTX
    have hbb : byt (bstr (bodyL T V S [])) = bodyL T V S [] := byt_bstr (bodyL_byte T V S [])
    have hwl := (unwrap_wrap (b := bodyL T V S []) (by have := HLN.out; simp at this; omega) (bodyL_byte T V S [])).1
    have HWR := hid (wrap_x (bstr (bodyL T V S [])) wr (by rw [← byt_len, hbb]; have := HLN.out; simp at this; omega))
    rw [hbb, hwl] at HWR
    clear hbd hbb hwl
    go_wp2_with fail
    refine HTX.out.mono ?_
    rintro e' w6 ⟨rfl, rfl⟩
    go_wp2_with fail
    refine HWR.out.mono ?_
    rintro e' w7 ⟨rfl, hb7⟩
    go_wp2_with fail
    rw [HQ.out]
    exact enc_res HC.out (by unfold frameL; rw [List.append_assoc]) (ext_trans HI.out.be hb7)
   ·have hlp : 0 < l.length := List.length_pos_iff.2 hl0
    have j6 : decide ((0 : Int) < (l.length : Int)) = true := by rw [decide_eq_true_iff]; omega
    have j7 : decide (0 < l.length) = true := by rw [decide_eq_true_iff]; exact hlp
    have x0 := HI.out.bx.cell 0 (v := .int .i64 T) rfl
    have x1 := HI.out.bx.cell 1 (v := .int .i64 V) rfl
    have x2 := HI.out.bx.cell 2 (v := .int .i64 S) rfl
    have hT1 := HTO.out.2.2.2.1 hl0
    have hs := HSZ.out
    have HNEW := hid (new_any T V S wr (HK.out.below HI.out.be) (by unfold sizesB; exact decide_eq_true (by omega)))
    have HT1 := hid hT1
    have HL0 := hid hl0
    clear hl0 hlp hT1 hs
    go_wp2_with fail
    refine HNEW.out.mono ?_
    rintro e' w5 ⟨C, rfl, hC0, hC, hb5⟩
    have hI5 := HI.out.below hb5
    have hs := HSZ.out
    have hT1 := HT1.out
    have D0 : Wd T V S (cAll newC (l.take 0)) C b 16777216 ((numsT T V S l).flatMap putN ++ bytesAll T newC (l.take 0)) (b + 1) u w5 := ⟨hC, by rw [List.take_zero, bytesAll, List.append_nil]; exact hI5.wt, okC_new hT1, ⟨⟨by omega, by omega⟩, ⟨by omega, by omega⟩, ⟨by omega, by omega⟩⟩, by have := HI.out.lt.2; omega, fun g hg => by have := (HI.out.wt.own.lt g hg).2; omega, hI5.lt.2, ⟨by omega, by omega⟩⟩
    have HD0 := hid D0
    have HX5 := hid hI5.bx
    have HB5 := hid hI5.be
    have HCB : Hid (w.heap.size < b ∧ b < C) := hid ⟨HI.out.lt.1, by have := HI.out.lt.2; omega⟩
    have x3 := hI5.bx.cell 3 (v := .slice a l.length cap) rfl
    clear hC0 hC hb5 hI5 D0 hs hT1 x0 x1 x2 HI HNEW j6 j7
    go_wp2_with fail
    clear x3
    go_loopw [70] (fun i wr => ∃ (k : Nat) (u : Value), k ≤ l.length ∧ i = .int .i64 (k : Int) ∧ Hid (Wd T V S (cAll newC (l.take k)) C b 16777216 ((numsT T V S l).flatMap putN ++ bytesAll T newC (l.take k)) (b + 1) u wr) ∧ Hid (Blk wr w.heap.size #[.int .i64 T, .int .i64 V, .int .i64 S, .slice a l.length cap] 25) ∧ Hid (Below w.heap.size w wr)) (fun i _ => l.length - (intOf i).toNat)
    case atStart => exact ⟨0, _, Nat.zero_le _, rfl, HD0, HX5, HB5⟩
    case round =>
     clear HD0 HX5 HB5
     obtain ⟨k, u, hk, rfl, HD, HX, HB⟩ := hrel
     by_cases hlt : k < l.length
     ·have j1 : decide ((k : Int) < (l.length : Int)) = true := by rw [decide_eq_true_iff]; omega
      have j2 : (0 : Int) ≤ (k : Int) := by omega
      have j3 : IntKind.i64.wrap ((k : Int) + 1) = (k : Int) + 1 := IntWalk.i64_in _ (by have := HLN.out.2; omega)
      have j4 : decide (k < l.length) = true := by rw [decide_eq_true_iff]; omega
      obtain ⟨b', o, rfl, hcell⟩ := HE.out.2 HL0.out
      have hok := HE.out.1 l[k] (List.getElem_mem hlt)
      have hspl : l = l.take k ++ l[k] :: l.drop (k + 1) := by rw [List.getElem_cons_drop, List.take_append_drop]
      have hto := HTO.out.2.2.1
      rw [hspl] at hto
      obtain ⟨t1, t2⟩ := (told_app T V S _ _ newC).1 hto
      obtain ⟨n1, n2, n3⟩ := told_snoc t1 t2.1.1 t2.1.2
      rw [← List.take_succ_eq_append_getElem hlt] at n2 n3
      have htl := t2.1.1
      have hbl : ((numsT T V S l).flatMap putN ++ bytesAll T newC (l.take k)).length ≤ 40 + 12 * k := by
       have h1 := pflat_len (numsT T V S l)
       rw [nums_len] at h1
       have h2 := bytesAll_len (l.take k) (okC_new HT1.out) t1
       rw [List.length_take] at h2
       rw [List.length_append]; omega
      have hkd := HK.out.below HB.out
      generalize hek : l[k] = ek at hok t1 n2 n3 htl
      obtain ⟨kind, th, tx, at_, v, x', why⟩ := ek
      have e0 := later HB.out (hcell k hlt 0 (.int .u8 kind) (by rw [hek]; rfl))
      have e1 := later HB.out (hcell k hlt 1 (.int .i64 th) (by rw [hek]; rfl))
      have e2 := later HB.out (hcell k hlt 2 (.int .i64 tx) (by rw [hek]; rfl))
      have e3 := later HB.out (hcell k hlt 3 (.int .i64 at_) (by rw [hek]; rfl))
      have e4 := later HB.out (hcell k hlt 4 (.int .i64 v) (by rw [hek]; rfl))
      have e5 := later HB.out (hcell k hlt 5 (.int .i64 x') (by rw [hek]; rfl))
      have e6 := later HB.out (hcell k hlt 6 (.int .u8 why) (by rw [hek]; rfl))
      rw [Nat.add_zero] at e0
      obtain ⟨Wz, hWz⟩ : ∃ Wz, Wz = wr.alloc (.cells #[.int .u8 kind, .int .i64 th, .int .i64 tx, .int .i64 at_, .int .i64 v, .int .i64 x', .int .u8 why] 50) := ⟨_, rfl⟩
      have hbz : Below wr.heap.size wr Wz := by rw [hWz]; exact ext_alloc (ext_refl _) _
      have hez : Blk Wz wr.heap.size #[.int .u8 kind, .int .i64 th, .int .i64 tx, .int .i64 at_, .int .i64 v, .int .i64 x', .int .u8 why] 50 := by rw [hWz]; exact Blk.new _ _ _
      have z0 := hez.cell 0 (v := .int .u8 kind) rfl
      have z1 := hez.cell 1 (v := .int .i64 th) rfl
      have z2 := hez.cell 2 (v := .int .i64 tx) rfl
      have z3 := hez.cell 3 (v := .int .i64 at_) rfl
      have z4 := hez.cell 4 (v := .int .i64 v) rfl
      have z5 := hez.cell 5 (v := .int .i64 x') rfl
      have z6 := hez.cell 6 (v := .int .u8 why) rfl
      have hDz := HD.out.below hbz
      have HW := hid (wr_yes hDz (hkd.below hbz) hok htl (by have := HLN.out.2; omega) (by have := HLN.out.2; omega))
      unfold WrYes at HW
      rw [List.append_assoc, ← n2, ← n3] at HW
      dsimp only [evA] at HW
      have HDZ := hid hDz
      have HXZ := hid (HX.out.below hbz)
      have HBZ := hid (ext_trans HB.out hbz)
      have HWZ := hid hWz
      have HLT := hid hlt
      clear hcell hok hspl hto t1 t2 n1 n2 n3 htl hbl hkd hek hbz hez hDz hWz hlt hk HD HX HB
      go_wp2_with (rw [← HWZ.out]; go_simp)
      clear e0 e1 e2 e3 e4 e5 e6
      refine HW.out.mono ?_
      rintro e' w6 ⟨rfl, u', hd, -, hT⟩
      have HD6 := hid hd
      have hni : w.heap.size ∉ C :: b :: u.ownBlock.toList := by
       have h1 := HCB.out
       intro hm
       rcases List.mem_cons.1 hm with e | hm
       ·omega
       rcases List.mem_cons.1 hm with e | hm
       ·omega
       have := (HDZ.out.wr.own.lt _ (by simpa using hm)).1
       omega
      have HX6 := hid (hT.blk hni HXZ.out)
      have HB6 := hid (HBZ.out.trans (HDZ.out.low hT (by have := HCB.out; omega) (by have := HCB.out; omega)))
      clear hd hT hni z0 z1 z2 z3 z4 z5 z6 HW HWZ HDZ HXZ HBZ
      go_wp2_with fail
      go_roundw
      case rel => exact ⟨k + 1, u', by have := HLT.out; omega, by simp, HD6, HX6, HB6⟩
      case measure => have := HLT.out; simp [intOf]; omega
     ·obtain rfl : k = l.length := by omega
      have j1 : decide ((l.length : Int) < (l.length : Int)) = false := by rw [decide_eq_false_iff_not]; omega
      have j4 : decide (l.length < l.length) = false := by rw [decide_eq_false_iff_not]; omega
      rw [List.take_length, body_flat] at HD
      have HTX := hid (wText_any b 16777216 _ wr HD.out.wr.wrt (bodyL_byte T V S l))
      have hbb : byt (bstr (bodyL T V S l)) = bodyL T V S l := byt_bstr (bodyL_byte T V S l)
      have hwl := (unwrap_wrap (b := bodyL T V S l) (by have := HLN.out; omega) (bodyL_byte T V S l)).1
      have HWR := hid (wrap_x (bstr (bodyL T V S l)) wr (by rw [← byt_len, hbb]; have := HLN.out; omega))
      rw [hbb, hwl] at HWR
      clear hbb hwl hlt hk
      go_wp2_with fail
      refine HTX.out.mono ?_
      rintro e' w6 ⟨rfl, rfl⟩
      go_wp2_with fail
      refine HWR.out.mono ?_
      rintro e' w7 ⟨rfl, hb7⟩
      go_wp2_with fail
      rw [HQ.out]
      exact enc_res HC.out (by unfold frameL; rw [List.append_assoc]) (ext_trans HB.out hb7)
theorem enc_any (T V S : Int) (a : Option Addr) (l : List Ev) (cap : Nat) (w : World) (hE : EvsAt w a l) (hK : KindsAt w) (hT : TabOk w) : Calls Tryz.prog 12 #[trA T V S a l.length cap] w (EncP T V S l w) := by
 by_cases hc : (checkT T V S l).2 = 0
 ·exact enc_ok T V S a l cap w hE hK hT hc
 ·exact enc_no T V S a l cap w hE hK hT hc
end Go.Proofs.YtnblhodhkifeeaaGreatDoor
