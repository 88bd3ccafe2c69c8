/-
  Walk: DeltaWrites (its region 15 is printed by gen_dwl.py).
-/
import Derived.Test.YtokkafiphchejaaDoorDwC
import Derived.Test.YtokkafiphchejaaDoorDwT
import Derived.Test.YtokkafiphchejaaDoorDwW
import Derived.Test.YtokkafiphchejaaDoorDeG2
import Derived.Test.YtokkafiphchejaaDoorDeJ
import Derived.Test.YtokkafiphchejaaDoorReg8
namespace Go.Proofs.YtokkafiphchejaaDoor
set_option linter.unusedVariables false
set_option linter.unusedSimpArgs false
set_option linter.unusedVariables false
open Go Go.RowKit
theorem blk_ne {w : World} {a b : Nat} {cs cs' : Array Value} {t t' : TypeId} (h : Blk w a cs t) (h' : Blk w b cs' t') (ht : t ≠ t') : a ≠ b := by
  rintro rfl
  unfold Blk at h h'
  rw [h] at h'
  injection h' with h'
  injection h' with h1 h2
  exact ht h2
theorem own_ne {w : World} {base : Nat} {ty : TypeId} {sz : Nat} {v : Value} {n : Nat} {xs : List Value} {g D : Nat} {cs : Array Value} {t : TypeId} (h : w.ownsRow base ty sz v n xs) (hg : v.ownBlock = some g) (hB : Blk w D cs t) (ht : t ≠ ty) : g ≠ D := by
  rintro rfl
  rcases h.2 with ⟨hv, -⟩ | ⟨g', cap, cur, hv, hb, hgg, -⟩
  · rw [hv] at hg; simp [Value.ownBlock] at hg
  · rw [hv] at hg
    have : g' = g := by simpa [Value.ownBlock] using hg
    subst this
    unfold Blk at hB
    rw [hB] at hgg
    injection hgg with hgg
    injection hgg with h1 h2
    exact ht h2
/-- One Write: what is told, what the coder knows then, the bytes. -/
def stepD (T V S most : Int) (c : Cdr) (bs : List Nat) (e : Ev) : Int × Cdr × List Nat :=
  if tellsC T V S c e = false then (4, c, bs) else if ((bs.length + (bytesC T c e).length : Nat) : Int) ≤ most then (0, knowsC c e, bs ++ bytesC T c e) else (40, c, bs)
/-- Two coders and two writers. -/
structure DwS (T V S most : Int) (W : World) (C D b rb : Nat) (c d : Cdr) (bs ds : List Nat) (u : Value) (w : World) : Prop where
  co : Blk w C (cdrA T V S c) 74
  dc : Blk w D (cdrA T V S d) 90
  wr : WrtO w b most bs (b + 1) u
  rw : RWrt w rb most ds
  lo : W.heap.size ≤ C ∧ W.heap.size ≤ D ∧ W.heap.size ≤ b ∧ W.heap.size ≤ rb
  be : Below W.heap.size W w
  ok : OkC T c
  okd : OkC T d
  le : (bs.length : Int) ≤ most ∧ (ds.length : Int) ≤ most
  by1 : ∀ q ∈ bs, q < 256
  by2 : ∀ q ∈ ds, q < 256
section
variable {T V S most : Int} {W : World} {C D b rb : Nat} {c d : Cdr} {bs ds : List Nat} {u : Value} {w w' : World} {e : Ev}
theorem DwS.below (H : DwS T V S most W C D b rb c d bs ds u w) (h : Below w.heap.size w w') : DwS T V S most W C D b rb c d bs ds u w' :=
  ⟨H.co.below h, H.dc.below h, H.wr.below h, Blk.below h H.rw, H.lo, ext_trans H.be h, H.ok, H.okd, H.le, H.by1, H.by2⟩
theorem DwS.nes (H : DwS T V S most W C D b rb c d bs ds u w) : C ≠ D ∧ C ≠ b ∧ C ≠ rb ∧ D ≠ b ∧ D ≠ rb ∧ b ≠ rb :=
  ⟨blk_ne H.co H.dc (by decide), blk_ne H.co H.wr.blk (by decide), blk_ne H.co H.rw (by decide), blk_ne H.dc H.wr.blk (by decide), blk_ne H.dc H.rw (by decide), blk_ne H.wr.blk H.rw (by decide)⟩
/-- delta's Write. -/
theorem DwS.one (H : DwS T V S most W C D b rb c d bs ds u w) (hKd : KindsAt W) (hok : EvOk e) (hsz : (1 ≤ T ∧ T ≤ 6) ∧ (1 ≤ V ∧ V ≤ 32) ∧ (1 ≤ S ∧ S ≤ 32)) (hm : 0 ≤ most ∧ most ≤ 16777216) :
    Calls Tryd.prog 12 #[.pointer (some ⟨C, 0, none⟩), .pointer (some ⟨b, 0, none⟩), evA e] w fun e' w' => e' = .returned (.int .i64 (stepD T V S most c bs e).1) ∧ (∃ u', DwS T V S most W C D b rb (stepD T V S most c bs e).2.1 d (stepD T V S most c bs e).2.2 ds u' w') ∧
      (∀ K cs, K ≠ C → Blk w K cs 74 → Blk w' K cs 74) ∧ (∀ K cs, Blk w K cs 90 → Blk w' K cs 90) := by
  have hkd := hKd.below H.be
  cases ht : tellsC T V S c e with
  | false =>
    have hst : stepD T V S most c bs e = (4, c, bs) := by unfold stepD; rw [if_pos ht]
    rw [hst]
    exact (write_no T V S c e C b w hok H.co hkd hsz.1 hsz.2.1 hsz.2.2 ht).mono fun e' w' h => ⟨h.1, ⟨u, H.below h.2⟩, fun K cs _ hK => hK.below h.2, fun K cs hK => hK.below h.2⟩
  | true =>
    have ht' := ht
    unfold tellsC at ht'
    rw [Bool.and_eq_true] at ht'
    obtain ⟨-, ⟨-, -, -, t1, -⟩, -⟩ := may_sizes' ht'.1
    obtain ⟨kind, th, tx, at_, v, x, why⟩ := e
    dsimp only at t1
    obtain ⟨n, rfl⟩ := Int.eq_ofNat_of_zero_le t1
    by_cases hf : ((bs.length + (bytesC T c ⟨kind, (n : Int), tx, at_, v, x, why⟩).length : Nat) : Int) ≤ most
    · have hst : stepD T V S most c bs ⟨kind, (n : Int), tx, at_, v, x, why⟩ = (0, knowsC c ⟨kind, (n : Int), tx, at_, v, x, why⟩, bs ++ bytesC T c ⟨kind, (n : Int), tx, at_, v, x, why⟩) := by unfold stepD; rw [if_neg (by rw [ht]; decide), if_pos hf]
      rw [hst]
      have hl := H.le.1
      refine (write_fit T V S c kind tx at_ v x why n C b most bs (b + 1) u w hok H.co hkd hsz.1 hsz.2.1 hsz.2.2 H.ok ht H.wr H.nes.2.1 (fun g hg => own_ne H.wr.own hg H.co (by decide)) H.wr.blk.lt (by omega) hm hf).mono fun e' w' h => ?_
      obtain ⟨hr, hC, u', hw, hu, hT⟩ := h
      have hnb : ∀ K cs t, Blk w K cs t → t ≠ 77 → t ≠ 5 → K ≠ C → K ∉ C :: b :: u.ownBlock.toList := by
        intro K cs t hK h1 h2 h3 hm
        rcases List.mem_cons.1 hm with e | hm
        · exact h3 e
        rcases List.mem_cons.1 hm with e | hm
        · exact blk_ne hK H.wr.blk h1 e
        · exact own_ne H.wr.own (by simpa using hm) hK h2 rfl
      refine ⟨hr, ⟨u', ⟨hC, hT.blk (hnb _ _ _ H.dc (by decide) (by decide) (Ne.symm H.nes.1)) H.dc, hw, Turn.blk hT (hnb _ _ _ H.rw (by decide) (by decide) (Ne.symm H.nes.2.2.1)) H.rw, H.lo, H.be.trans (hT.below (fun x hx => ?_) H.be.size), okC_knows H.ok ht hok.2.2.2.2.2.1, H.okd, ⟨by rw [List.length_append]; exact hf, H.le.2⟩, ?_, H.by2⟩⟩, fun K cs hne hK => hT.blk (hnb K cs _ hK (by decide) (by decide) hne) hK, fun K cs hK => hT.blk (hnb K cs _ hK (by decide) (by decide) (fun e => blk_ne H.co hK (by decide) e.symm)) hK⟩
      · have hlo := H.lo
        rcases List.mem_cons.1 hx with e | hx
        · omega
        rcases List.mem_cons.1 hx with e | hx
        · omega
        have := (H.wr.own.lt x (by simpa using hx)).1
        omega
      · intro q hq
        rcases List.mem_append.1 hq with hq | hq
        · exact H.by1 q hq
        · exact bytesC_lt T c _ q hq
    · have hst : stepD T V S most c bs ⟨kind, (n : Int), tx, at_, v, x, why⟩ = (40, c, bs) := by unfold stepD; rw [if_neg (by rw [ht]; decide), if_neg hf]
      rw [hst]
      have hl := H.le.1
      exact (write_full T V S c kind tx at_ v x why n C b most bs (b + 1) u w hok H.co hkd hsz.1 hsz.2.1 hsz.2.2 H.ok ht H.wr H.nes.2.1 (fun g hg => own_ne H.wr.own hg H.co (by decide)) H.wr.blk.lt (by omega) hm (by omega)).mono fun e' w' h => ⟨h.1, ⟨u, H.below h.2⟩, fun K cs _ hK => hK.below h.2, fun K cs hK => hK.below h.2⟩
/-- The document's Write. -/
theorem DwS.two (H : DwS T V S most W C D b rb c d bs ds u w) (hN : NamesR W) (hok : EvOk e) (hsz : (1 ≤ T ∧ T ≤ 6) ∧ (1 ≤ V ∧ V ≤ 32) ∧ (1 ≤ S ∧ S ≤ 32)) (hm : 0 ≤ most ∧ most ≤ 16777216) :
    Calls Tryd.prog 18 #[.pointer (some ⟨D, 0, none⟩), .pointer (some ⟨rb, 0, none⟩), evA e] w fun e' w' => e' = .returned (.int .i64 (stepD T V S most d ds e).1) ∧ (∃ u', DwS T V S most W C D b rb c (stepD T V S most d ds e).2.1 bs (stepD T V S most d ds e).2.2 u' w') ∧
      (∀ K cs, Blk w K cs 74 → Blk w' K cs 74) ∧ (∀ K cs, K ≠ D → Blk w K cs 90 → Blk w' K cs 90) := by
  have hnn := hN.below H.be
  cases ht : tellsC T V S d e with
  | false =>
    have hst : stepD T V S most d ds e = (4, d, ds) := by unfold stepD; rw [if_pos ht]
    rw [hst]
    exact (rwrite_no T V S d e D rb w hok H.dc hnn hsz.1 hsz.2.1 hsz.2.2 ht).mono fun e' w' h => ⟨h.1, ⟨u, H.below h.2⟩, fun K cs hK => hK.below h.2, fun K cs _ hK => hK.below h.2⟩
  | true =>
    have ht' := ht
    unfold tellsC at ht'
    rw [Bool.and_eq_true] at ht'
    obtain ⟨-, ⟨-, -, -, t1, -⟩, -⟩ := may_sizes' ht'.1
    obtain ⟨kind, th, tx, at_, v, x, why⟩ := e
    dsimp only at t1
    obtain ⟨n, rfl⟩ := Int.eq_ofNat_of_zero_le t1
    have hl := H.le.2
    by_cases hf : ((ds.length + (bytesC T d ⟨kind, (n : Int), tx, at_, v, x, why⟩).length : Nat) : Int) ≤ most
    · have hst : stepD T V S most d ds ⟨kind, (n : Int), tx, at_, v, x, why⟩ = (0, knowsC d ⟨kind, (n : Int), tx, at_, v, x, why⟩, ds ++ bytesC T d ⟨kind, (n : Int), tx, at_, v, x, why⟩) := by unfold stepD; rw [if_neg (by rw [ht]; decide), if_pos hf]
      rw [hst]
      refine (rwrite_yes T V S d kind tx at_ v x why n D rb most ds w hok H.dc hnn hsz.1 hsz.2.1 hsz.2.2 H.okd ht H.rw H.by2 H.nes.2.2.2.2.1 (by omega) hf).mono fun e' w' h => ?_
      obtain ⟨hr, hD, hw, hT⟩ := h
      have hnb : ∀ K cs t, Blk w K cs t → t ≠ 48 → K ≠ D → K ∉ [D, rb] := by
        intro K cs t hK h1 h3 hm
        rcases List.mem_cons.1 hm with e | hm
        · exact h3 e
        rcases List.mem_cons.1 hm with e | hm
        · exact blk_ne hK H.rw h1 e
        cases hm
      refine ⟨hr, ⟨u, ⟨hT.blk (hnb _ _ _ H.co (by decide) H.nes.1) H.co, hD, H.wr.turn hT (hnb _ _ _ H.wr.blk (by decide) (Ne.symm H.nes.2.2.2.1)) (fun g hg hm => ?_), hw, H.lo, H.be.trans (hT.below (fun x hx => ?_) H.be.size), H.ok, okC_knows H.okd ht hok.2.2.2.2.2.1, ⟨H.le.1, by rw [List.length_append]; exact hf⟩, H.by1, ?_⟩⟩, fun K cs hK => hT.blk (hnb K cs _ hK (by decide) (fun e => blk_ne hK H.dc (by decide) e)) hK, fun K cs hne hK => hT.blk (hnb K cs _ hK (by decide) hne) hK⟩
      · rcases List.mem_cons.1 hm with e | hm
        · exact own_ne H.wr.own hg H.dc (by decide) e
        rcases List.mem_cons.1 hm with e | hm
        · exact own_ne H.wr.own hg H.rw (by decide) e
        cases hm
      · have hlo := H.lo
        rcases List.mem_cons.1 hx with e | hx
        · omega
        rcases List.mem_cons.1 hx with e | hx
        · omega
        cases hx
      · intro q hq
        rcases List.mem_append.1 hq with hq | hq
        · exact H.by2 q hq
        · exact bytesC_lt T d _ q hq
    · have hst : stepD T V S most d ds ⟨kind, (n : Int), tx, at_, v, x, why⟩ = (40, d, ds) := by unfold stepD; rw [if_neg (by rw [ht]; decide), if_neg hf]
      rw [hst]
      exact (rwrite_full T V S d kind tx at_ v x why n D rb most ds w hok H.dc hnn hsz.1 hsz.2.1 hsz.2.2 H.okd ht H.rw H.by2 H.nes.2.2.2.2.1 (by omega) (by omega)).mono fun e' w' h => ⟨h.1, ⟨u, H.below h.2⟩, fun K cs hK => hK.below h.2, fun K cs _ hK => hK.below h.2⟩
end
set_option maxRecDepth 100000 in
set_option maxHeartbeats 4000000 in
theorem writes_great (T V S most : Int) (a : Option Addr) (l : List Ev) (cap : Nat) (W : World) (hKd : KindsAt W) (hn : 400 < l.length) : Calls Tryd.prog 4 #[.int .i64 T, .int .i64 V, .int .i64 S, .int .i64 most, .slice a l.length cap] W fun e' W' => e' = .returned (.bool true) ∧ Below W.heap.size W W' := by
  have HAW := hid (awake_any W hKd)
  have g1 : decide ((400 : Int) < (l.length : Int)) = true := by rw [decide_eq_true_iff]; omega
  have g2 : decide (400 < l.length) = true := by rw [decide_eq_true_iff]; omega
  clear hn hKd
  obtain ⟨Q, hQ⟩ : ∃ Q : Ending → World → Prop, Q = fun e' W' => e' = .returned (.bool true) ∧ Below W.heap.size W W' := ⟨_, rfl⟩
  rw [← hQ]
  have HQ := hid hQ
  clear hQ
  go_enter Tryd.func4, Tryd.ntmps4
  go_wp2_with fail
  refine HAW.out.mono ?_
  rintro e' W1 ⟨rfl, hb1⟩
  go_wp2_with fail
  rw [HQ.out]
  exact ⟨rfl, hb1⟩
set_option maxRecDepth 100000 in
set_option maxHeartbeats 4000000 in
theorem writes_bb (T V S most : Int) (a : Option Addr) (l : List Ev) (cap : Nat) (W : World) (hKd : KindsAt W) (hn : l.length ≤ 400) (hz : sizesB T V S = false) (hm : most < 0 ∨ 16777216 < most) : Calls Tryd.prog 4 #[.int .i64 T, .int .i64 V, .int .i64 S, .int .i64 most, .slice a l.length cap] W fun e' W' => e' = .returned (.bool true) ∧ Below W.heap.size W W' := by
  have g1 : decide ((400 : Int) < (l.length : Int)) = false := by rw [decide_eq_false_iff_not]; omega
  have g2 : decide (400 < l.length) = false := by rw [decide_eq_false_iff_not]; omega
  have HK := hid hKd
  have HZ := hid hz
  have HM := hid hm
  have HNW := hid (new_bad' T V S W hKd hz)
  clear hn hKd hz hm
  obtain ⟨Q, hQ⟩ : ∃ Q : Ending → World → Prop, Q = fun e' W' => e' = .returned (.bool true) ∧ Below W.heap.size W W' := ⟨_, rfl⟩
  rw [← hQ]
  have HQ := hid hQ
  clear hQ
  go_enter Tryd.func4, Tryd.ntmps4
  go_wp2_with fail
  refine HNW.out.mono ?_
  rintro e' W1 ⟨rfl, hb1⟩
  have HB1 := hid hb1
  clear hb1 HNW
  go_wp2_with fail
  refine (newR_bad T V S W1 HZ.out).mono ?_
  rintro e' W2 ⟨rfl, rfl⟩
  have HB2 := HB1
  go_wp2_with fail
  refine (newWriter_bad most W1 HM.out).mono ?_
  rintro e' W3 ⟨rfl, rfl⟩
  go_wp2_with fail
  refine (rNewW_bad most W1 HM.out).mono ?_
  rintro e' W4 ⟨rfl, rfl⟩
  have HAW := hid (awake_any _ (HK.out.below HB2.out))
  go_wp2_with fail
  refine HAW.out.mono ?_
  rintro e' W5 ⟨rfl, hb5⟩
  go_wp2_with fail
  rw [HQ.out]
  exact ⟨rfl, ext_trans HB2.out hb5⟩
set_option maxRecDepth 100000 in
set_option maxHeartbeats 4000000 in
theorem writes_bo (T V S most : Int) (a : Option Addr) (l : List Ev) (cap : Nat) (W : World) (hKd : KindsAt W) (hn : l.length ≤ 400) (hz : sizesB T V S = false) (hm : 0 ≤ most ∧ most ≤ 16777216) : Calls Tryd.prog 4 #[.int .i64 T, .int .i64 V, .int .i64 S, .int .i64 most, .slice a l.length cap] W fun e' W' => e' = .returned (.bool true) ∧ Below W.heap.size W W' := by
  have g1 : decide ((400 : Int) < (l.length : Int)) = false := by rw [decide_eq_false_iff_not]; omega
  have g2 : decide (400 < l.length) = false := by rw [decide_eq_false_iff_not]; omega
  have HK := hid hKd
  have HZ := hid hz
  have HM := hid hm
  have HNW := hid (new_bad' T V S W hKd hz)
  clear hn hKd hz hm
  obtain ⟨Q, hQ⟩ : ∃ Q : Ending → World → Prop, Q = fun e' W' => e' = .returned (.bool true) ∧ Below W.heap.size W W' := ⟨_, rfl⟩
  rw [← hQ]
  have HQ := hid hQ
  clear hQ
  go_enter Tryd.func4, Tryd.ntmps4
  go_wp2_with fail
  refine HNW.out.mono ?_
  rintro e' W1 ⟨rfl, hb1⟩
  have HB1 := hid hb1
  clear hb1 HNW
  go_wp2_with fail
  refine (newR_bad T V S W1 HZ.out).mono ?_
  rintro e' W2 ⟨rfl, rfl⟩
  have HB2 := HB1
  go_wp2_with fail
  refine (newWriter_any most W1 HM.out).mono ?_
  rintro e' W3 ⟨rfl, hw3, hb3⟩
  have HB3 := hid (ext_trans HB2.out hb3)
  clear hw3 hb3
  go_wp2_with fail
  refine (rNewW_any most W3 HM.out).mono ?_
  rintro e' W4 ⟨rfl, hw4, hb4⟩
  have HB4 := hid (ext_trans HB3.out hb4)
  clear hw4 hb4
  have HAW := hid (awake_any W4 (HK.out.below HB4.out))
  go_wp2_with fail
  refine HAW.out.mono ?_
  rintro e' W5 ⟨rfl, hb5⟩
  go_wp2_with fail
  rw [HQ.out]
  exact ⟨rfl, ext_trans HB4.out hb5⟩
set_option maxRecDepth 100000 in
set_option maxHeartbeats 4000000 in
theorem writes_ob (T V S most : Int) (a : Option Addr) (l : List Ev) (cap : Nat) (W : World) (hKd : KindsAt W) (hn : l.length ≤ 400) (hz : sizesB T V S = true) (hm : most < 0 ∨ 16777216 < most) : Calls Tryd.prog 4 #[.int .i64 T, .int .i64 V, .int .i64 S, .int .i64 most, .slice a l.length cap] W fun e' W' => e' = .returned (.bool true) ∧ Below W.heap.size W W' := by
  have g1 : decide ((400 : Int) < (l.length : Int)) = false := by rw [decide_eq_false_iff_not]; omega
  have g2 : decide (400 < l.length) = false := by rw [decide_eq_false_iff_not]; omega
  have HK := hid hKd
  have HZ := hid hz
  have HM := hid hm
  have HNW := hid (new_any T V S W hKd hz)
  clear hn hKd hz hm
  obtain ⟨Q, hQ⟩ : ∃ Q : Ending → World → Prop, Q = fun e' W' => e' = .returned (.bool true) ∧ Below W.heap.size W W' := ⟨_, rfl⟩
  rw [← hQ]
  have HQ := hid hQ
  clear hQ
  go_enter Tryd.func4, Tryd.ntmps4
  go_wp2_with fail
  refine HNW.out.mono ?_
  rintro e' W1 ⟨C, rfl, hC0, hC, hb1⟩
  have HB1 := hid hb1
  clear hb1 hC hC0 HNW
  go_wp2_with fail
  refine (newR_any T V S W1 HZ.out).mono ?_
  rintro e' W2 ⟨rfl, hD, hb2⟩
  have HB2 := hid (ext_trans HB1.out hb2)
  clear hD hb2
  go_wp2_with fail
  refine (newWriter_bad most W2 HM.out).mono ?_
  rintro e' W3 ⟨rfl, rfl⟩
  go_wp2_with fail
  refine (rNewW_bad most W2 HM.out).mono ?_
  rintro e' W4 ⟨rfl, rfl⟩
  have HAW := hid (awake_any _ (HK.out.below HB2.out))
  go_wp2_with fail
  refine HAW.out.mono ?_
  rintro e' W5 ⟨rfl, hb5⟩
  go_wp2_with fail
  rw [HQ.out]
  exact ⟨rfl, ext_trans HB2.out hb5⟩
set_option maxRecDepth 100000 in
set_option maxHeartbeats 40000000 in
theorem writes_ok (T V S most : Int) (a : Option Addr) (l : List Ev) (cap : Nat) (W : World) (hE : EvsAt W a l) (hKd : KindsAt W) (hNm : NamesR W) (hn : l.length ≤ 400) (hz : sizesB T V S = true) (hm : 0 ≤ most ∧ most ≤ 16777216) : Calls Tryd.prog 4 #[.int .i64 T, .int .i64 V, .int .i64 S, .int .i64 most, .slice a l.length cap] W fun e' W' => e' = .returned (.bool true) ∧ Below W.heap.size W W' := by
  have g1 : decide ((400 : Int) < (l.length : Int)) = false := by rw [decide_eq_false_iff_not]; omega
  have g2 : decide (400 < l.length) = false := by rw [decide_eq_false_iff_not]; omega
  have HK := hid hKd
  have HNM := hid hNm
  have HZ := hid hz
  have HM := hid hm
  have HE := hid hE
  have HL := hid hn
  have HNW := hid (new_any T V S W hKd hz)
  have HSZ : Hid ((1 ≤ T ∧ T ≤ 6) ∧ (1 ≤ V ∧ V ≤ 32) ∧ (1 ≤ S ∧ S ≤ 32)) := hid (by unfold sizesB at hz; have := of_decide_eq_true hz; omega)
  clear hn hKd hNm hz hm hE
  obtain ⟨Q, hQ⟩ : ∃ Q : Ending → World → Prop, Q = fun e' W' => e' = .returned (.bool true) ∧ Below W.heap.size W W' := ⟨_, rfl⟩
  rw [← hQ]
  have HQ := hid hQ
  clear hQ
  go_enter Tryd.func4, Tryd.ntmps4
  go_wp2_with fail
  refine HNW.out.mono ?_
  rintro e' W1 ⟨C, rfl, hC0, hC, hb1⟩
  have HC := hid hC
  have HC0 := hid hC0
  have HB1 := hid hb1
  clear hb1 hC hC0 HNW
  go_wp2_with fail
  refine (newR_any T V S W1 HZ.out).mono ?_
  rintro e' W2 ⟨rfl, hD, hb2⟩
  have HD := hid hD
  have HC2 := hid (HC.out.below hb2)
  have HB2 := hid (ext_trans HB1.out hb2)
  clear hD hb2
  go_wp2_with fail
  refine (newWriter_any most W2 HM.out).mono ?_
  rintro e' W3 ⟨rfl, hw3, hb3⟩
  have HW3 := hid hw3
  have HD3 := hid (HD.out.below hb3)
  have HC3 := hid (HC2.out.below hb3)
  have HB3 := hid (ext_trans HB2.out hb3)
  clear hw3 hb3
  go_wp2_with fail
  refine (rNewW_any most W3 HM.out).mono ?_
  rintro e' W4 ⟨rfl, hw4, hb4⟩
  have I0 : DwS T V S most W C W1.heap.size W2.heap.size W3.heap.size newC newC [] [] (.slice none 0 0) W4 := ⟨HC3.out.below hb4, HD3.out.below hb4, (WrtO.new HW3.out).below hb4, hw4, ⟨HC0.out, HB1.out.size, HB2.out.size, HB3.out.size⟩, ext_trans HB3.out hb4, okC_new (by have := HSZ.out; omega), okC_new (by have := HSZ.out; omega), ⟨by simpa using HM.out.1, by simpa using HM.out.1⟩, by simp, by simp⟩
  generalize W1.heap.size = D at I0 ⊢
  generalize W2.heap.size = b at I0 ⊢
  generalize W3.heap.size = rb at I0 ⊢
  have HI := hid I0
  clear I0 hb4 hw4 HB1 HB2 HB3 HC HC2 HC3 HD HD3 HW3 HC0
  go_wp2_with fail
  go_loopw [11, 13, 19] (fun cv dv i wr => ∃ (k C D : Nat) (c : Cdr) (bs : List Nat) (u : Value), k ≤ l.length ∧ cv = .pointer (some ⟨C, 0, none⟩) ∧ dv = .pointer (some ⟨D, 0, none⟩) ∧ i = .int .i64 (k : Int) ∧ Hid (DwS T V S most W C D b rb c c bs bs u wr)) (fun _ _ i _ => l.length - (intOf i).toNat)
  case atStart => exact ⟨0, C, D, _, _, _, Nat.zero_le _, rfl, rfl, rfl, HI⟩
  case round =>
    clear HI
    obtain ⟨k, C, D, c, bs, u, hkl, rfl, rfl, rfl, HI⟩ := hrel
    by_cases hlt : k < l.length
    case neg =>
      obtain rfl : k = l.length := by omega
      have j1 : decide ((l.length : Int) < (l.length : Int)) = false := by rw [decide_eq_false_iff_not]; omega
      have HAW := hid (awake_any wr (HK.out.below HI.out.be))
      clear hkl hlt
      go_wp2_with fail
      refine HAW.out.mono ?_
      rintro e' w4 ⟨rfl, hb4⟩
      go_wp2_with fail
      rw [HQ.out]
      exact ⟨rfl, ext_trans HI.out.be hb4⟩
    have j1 : decide ((k : Int) < (l.length : Int)) = true := by rw [decide_eq_true_iff]; omega
    have j2 : (0 : Int) ≤ (k : Int) := by omega
    have j3 : IntKind.i64.wrap ((k : Int) + 1) = (k : Int) + 1 := IntWalk.i64_in _ (by have := HL.out; omega)
    have j4 : decide (k < l.length) = true := by rw [decide_eq_true_iff]; omega
    have j5 : (k : Int) < (l.length : Int) := by omega
    obtain ⟨b', o, rfl, hcell⟩ := HE.out.2 (by intro h; rw [h] at hlt; simp at hlt)
    have HOK := hid (HE.out.1 l[k] (List.getElem_mem hlt))
    rcases hek : l[k] with ⟨kind, th, tx, at_, v, x', why⟩
    have hc0 := fun w' (hb : Below W.heap.size W w') => later hb (hcell k hlt 0 (.int .u8 kind) (by rw [hek]; rfl))
    have hc1 := fun w' (hb : Below W.heap.size W w') => later hb (hcell k hlt 1 (.int .i64 th) (by rw [hek]; rfl))
    have hc2 := fun w' (hb : Below W.heap.size W w') => later hb (hcell k hlt 2 (.int .i64 tx) (by rw [hek]; rfl))
    have hc3 := fun w' (hb : Below W.heap.size W w') => later hb (hcell k hlt 3 (.int .i64 at_) (by rw [hek]; rfl))
    have hc4 := fun w' (hb : Below W.heap.size W w') => later hb (hcell k hlt 4 (.int .i64 v) (by rw [hek]; rfl))
    have hc5 := fun w' (hb : Below W.heap.size W w') => later hb (hcell k hlt 5 (.int .i64 x') (by rw [hek]; rfl))
    have hc6 := fun w' (hb : Below W.heap.size W w') => later hb (hcell k hlt 6 (.int .u8 why) (by rw [hek]; rfl))
    simp only [Nat.add_zero] at hc0
    have HCS := hid (And.intro hc0 (And.intro hc1 (And.intro hc2 (And.intro hc3 (And.intro hc4 (And.intro hc5 hc6))))))
    rw [hek] at HOK
    have HLT := hid hlt
    clear hcell hek hlt hkl hc0 hc1 hc2 hc3 hc4 hc5 hc6
    have HOKC := hid HI.out.ok
    have HCP := hid (copy_any T V S c C wr HI.out.co)
    go_wp2_with fail
    refine HCP.out.mono ?_
    rintro e' w1 ⟨rfl, hX, hb1⟩
    have HRC := hid (rcopy_any T V S c D w1 (HI.out.dc.below hb1))
    have HX1 := hid hX
    have HI1 := hid (HI.out.below hb1)
    have HXL := hid (show W.heap.size ≤ wr.heap.size ∧ C ≠ wr.heap.size from ⟨HI.out.be.size, Nat.ne_of_lt HI.out.co.lt⟩)
    clear hX hb1 HCP HI
    generalize wr.heap.size = X at *
    go_wp2_with fail
    refine HRC.out.mono ?_
    rintro e' w2 ⟨rfl, hY, hb2⟩
    have HY2 := hid hY
    have HX2 := hid (HX1.out.below hb2)
    have HI2 := hid (HI1.out.below hb2)
    have HYL := hid (show W.heap.size ≤ w1.heap.size ∧ D ≠ w1.heap.size from ⟨HI1.out.be.size, Nat.ne_of_lt HI1.out.dc.lt⟩)
    clear hY hb2 HRC HI1 HX1
    generalize w1.heap.size = Y at *
    obtain ⟨r, c2, bs2, hst⟩ : ∃ r c2 bs2, stepD T V S most c bs ⟨kind, th, tx, at_, v, x', why⟩ = (r, c2, bs2) := ⟨_, _, _, rfl⟩
    obtain ⟨S0, hS0⟩ : ∃ P : World → Prop, P = fun w => (∃ u, DwS T V S most W C D b rb c c bs bs u w) ∧ Blk w X (cdrA T V S c) 74 ∧ Blk w Y (cdrA T V S c) 90 := ⟨_, rfl⟩
    obtain ⟨S1, hS1⟩ : ∃ P : World → Prop, P = fun w => (∃ u, DwS T V S most W C D b rb c2 c bs2 bs u w) ∧ Blk w X (cdrA T V S c) 74 ∧ Blk w Y (cdrA T V S c) 90 := ⟨_, rfl⟩
    obtain ⟨S2, hS2⟩ : ∃ P : World → Prop, P = fun w => (∃ u, DwS T V S most W C D b rb c2 c2 bs2 bs2 u w) ∧ Blk w X (cdrA T V S c) 74 ∧ Blk w Y (cdrA T V S c) 90 := ⟨_, rfl⟩
    have HS0 : Hid (S0 w2.drew) := hid (by rw [hS0]; exact ⟨⟨u, HI2.out.below (ext_drew (ext_refl _))⟩, HX2.out.below (ext_drew (ext_refl _)), HY2.out.below (ext_drew (ext_refl _))⟩)
    have HC0 : Hid (∀ w, S0 w → Calls Tryd.prog 12 #[.pointer (some ⟨C, 0, none⟩), .pointer (some ⟨b, 0, none⟩), evA ⟨kind, th, tx, at_, v, x', why⟩] w fun e' w' => e' = .returned (.int .i64 r) ∧ S1 w') := hid (by
      rw [hS0, hS1]
      rintro w ⟨⟨u, h⟩, hX, hY⟩
      have := h.one (e := ⟨kind, th, tx, at_, v, x', why⟩) HK.out HOK.out HSZ.out HM.out
      rw [hst] at this
      exact this.mono fun e' w' hh => ⟨hh.1, hh.2.1, hh.2.2.1 X _ (Ne.symm HXL.out.2) hX, hh.2.2.2 Y _ hY⟩)
    have HC1 : Hid (∀ w, S1 w → Calls Tryd.prog 18 #[.pointer (some ⟨D, 0, none⟩), .pointer (some ⟨rb, 0, none⟩), evA ⟨kind, th, tx, at_, v, x', why⟩] w fun e' w' => e' = .returned (.int .i64 r) ∧ S2 w') := hid (by
      rw [hS1, hS2]
      rintro w ⟨⟨u, h⟩, hX, hY⟩
      have := h.two (e := ⟨kind, th, tx, at_, v, x', why⟩) HNM.out HOK.out HSZ.out HM.out
      rw [hst] at this
      exact this.mono fun e' w' hh => ⟨hh.1, hh.2.1, hh.2.2.1 X _ hX, hh.2.2.2 Y _ (Ne.symm HYL.out.2) hY⟩)
    obtain ⟨txt, htx⟩ : ∃ txt, txt = bstr bs2 := ⟨_, rfl⟩
    have HTX : Hid (∀ w, S2 w → Calls Tryd.prog 19 #[.pointer (some ⟨b, 0, none⟩)] w fun e' w' => e' = .returned (.string txt) ∧ w = w') := hid (by
      rw [hS2, htx]
      rintro w ⟨⟨u, h⟩, -, -⟩
      exact wText_any b most bs2 w h.wr.wrt h.by1)
    have HRB : Hid (∀ w, S2 w → w.cell? ⟨rb, 1, none⟩ = some (.string txt)) := hid (by
      rw [hS2, htx]
      rintro w ⟨⟨u, h⟩, -, -⟩
      exact Blk.cell h.rw 1 rfl)
    have HBE0 : Hid (∀ w, S0 w → Below W.heap.size W w) := hid (by rw [hS0]; rintro w ⟨⟨u, h⟩, -⟩; exact h.be)
    have HBE1 : Hid (∀ w, S1 w → Below W.heap.size W w) := hid (by rw [hS1]; rintro w ⟨⟨u, h⟩, -⟩; exact h.be)
    have HBE2 : Hid (∀ w, S2 w → Below W.heap.size W w) := hid (by rw [hS2]; rintro w ⟨⟨u, h⟩, -⟩; exact h.be)
    have HS2 := hid hS2
    dsimp only [evA] at HC0 HC1
    clear hS0 hS1 hS2 hst htx HX2 HY2 HI2
    go_wp2_with fail
    apply wp_region_knownJ (fun qq => ([.pointer (some ⟨C, 0, none⟩), .pointer (some ⟨b, 0, none⟩), .slice (some ⟨b', o, none⟩) l.length cap, .int .i64 (k : Int), .pointer (some ⟨b', o + k * 7, none⟩), .agg #[.int .u8 kind, .int .i64 th, .int .i64 tx, .int .i64 at_, .int .i64 v, .int .i64 x', .int .u8 why], .int .i64 r, .pointer (some ⟨D, 0, none⟩), .pointer (some ⟨rb, 0, none⟩), .slice (some ⟨b', o, none⟩) l.length cap, .int .i64 (k : Int), .pointer (some ⟨b', o + k * 7, none⟩), .agg #[.int .u8 kind, .int .i64 th, .int .i64 tx, .int .i64 at_, .int .i64 v, .int .i64 x', .int .u8 why], .int .i64 r, .bool false, .bool false, .pointer (some ⟨b, 0, none⟩), .string txt, .pointer (some ⟨rb, 0, none⟩), .pointer (some ⟨rb, 0, none⟩), .pointer (some ⟨rb, 1, none⟩), .string txt, .bool false, .bool false] : List Value).getD qq undef) (Two S0 S1 S2 24 6 13 15)
    focus (simp [putAll, dstOf, Act.put, List.getD]; rfl)
    case hm => kernel_rfl
    case hd => kernel_rfl
    case hb => kernel_rfl
    case hng => kernel_rfl
    case hsz => kernel_rfl
    case hext => exact fun l l' w h H => H.ext (by decide) (by decide) (by decide) h
    case h0 => exact Two.start HS0.out
    case hstep =>
      refine ⟨?_, ?_, ?_, ?_, ?_, ?_, ?_, ?_, ?_, ?_, ?_, ?_, ?_, ?_, ?_, ?_, ?_, ?_, ?_, ?_, ?_, ?_, ?_, ?_, trivial⟩
      · refine ⟨(fun g b h => by cases h), fun ls w' hl hdp hJ hg ρ h1 h2 h3 h4 h5 => ?_⟩
        have HJ := hid hJ
        clear hJ
        have f11 : ρ (.tmp 11) = .pointer (some ⟨C, 0, none⟩) := h5 11 (by kernel_rfl)
        clear h4 h5 hg
        unfold OpY
        go_simp
        first | exact ⟨rfl, HJ.out.put (i := 0) (by decide) (by decide) (fun e => absurd e (by decide))⟩ | exact ⟨Or.inr rfl, HJ.out.put (i := 0) (by decide) (by decide) (fun e => absurd e (by decide))⟩
      · refine ⟨(fun g b h => by cases h), fun ls w' hl hdp hJ hg ρ h1 h2 h3 h4 h5 => ?_⟩
        have HJ := hid hJ
        clear hJ
        have f15 : ρ (.tmp 15) = .pointer (some ⟨b, 0, none⟩) := h5 15 (by kernel_rfl)
        clear h4 h5 hg
        unfold OpY
        go_simp
        first | exact ⟨rfl, HJ.out.put (i := 1) (by decide) (by decide) (fun e => absurd e (by decide))⟩ | exact ⟨Or.inr rfl, HJ.out.put (i := 1) (by decide) (by decide) (fun e => absurd e (by decide))⟩
      · refine ⟨(fun g b h => by cases h), fun ls w' hl hdp hJ hg ρ h1 h2 h3 h4 h5 => ?_⟩
        have HJ := hid hJ
        clear hJ
        have f4 : ρ (.tmp 4) = .slice (some ⟨b', o, none⟩) l.length cap := h5 4 (by kernel_rfl)
        clear h4 h5 hg
        unfold OpY
        go_simp
        first | exact ⟨rfl, HJ.out.put (i := 2) (by decide) (by decide) (fun e => absurd e (by decide))⟩ | exact ⟨Or.inr rfl, HJ.out.put (i := 2) (by decide) (by decide) (fun e => absurd e (by decide))⟩
      · refine ⟨(fun g b h => by cases h), fun ls w' hl hdp hJ hg ρ h1 h2 h3 h4 h5 => ?_⟩
        have HJ := hid hJ
        clear hJ
        have f19 : ρ (.tmp 19) = .int .i64 (k : Int) := h5 19 (by kernel_rfl)
        clear h4 h5 hg
        unfold OpY
        go_simp
        first | exact ⟨rfl, HJ.out.put (i := 3) (by decide) (by decide) (fun e => absurd e (by decide))⟩ | exact ⟨Or.inr rfl, HJ.out.put (i := 3) (by decide) (by decide) (fun e => absurd e (by decide))⟩
      · refine ⟨(fun g b h => by cases h), fun ls w' hl hdp hJ hg ρ h1 h2 h3 h4 h5 => ?_⟩
        have HJ := hid hJ
        clear hJ
        have f84 : ρ (.tmp 84) = .slice (some ⟨b', o, none⟩) l.length cap := h4 2 84 (by kernel_rfl) (by kernel_rfl)
        have f85 : ρ (.tmp 85) = .int .i64 (k : Int) := h4 3 85 (by kernel_rfl) (by kernel_rfl)
        clear h4 h5 hg
        unfold OpY
        go_simp
        first | exact ⟨rfl, HJ.out.put (i := 4) (by decide) (by decide) (fun e => absurd e (by decide))⟩ | exact ⟨Or.inr rfl, HJ.out.put (i := 4) (by decide) (by decide) (fun e => absurd e (by decide))⟩
      · refine ⟨(fun g b h => by cases h), fun ls w' hl hdp hJ hg ρ h1 h2 h3 h4 h5 => ?_⟩
        have HJ := hid hJ
        clear hJ
        have f86 : ρ (.tmp 86) = .pointer (some ⟨b', o + k * 7, none⟩) := h4 4 86 (by kernel_rfl) (by kernel_rfl)
        have hbw := HJ.out.all HBE0.out HBE1.out HBE2.out
        have c0 := HCS.out.1 w' hbw
        have c1 := HCS.out.2.1 w' hbw
        have c2 := HCS.out.2.2.1 w' hbw
        have c3 := HCS.out.2.2.2.1 w' hbw
        have c4 := HCS.out.2.2.2.2.1 w' hbw
        have c5 := HCS.out.2.2.2.2.2.1 w' hbw
        have c6 := HCS.out.2.2.2.2.2.2 w' hbw
        clear hbw
        clear h4 h5 hg
        unfold OpY
        go_simp
        first | exact ⟨rfl, HJ.out.put (i := 5) (by decide) (by decide) (fun e => absurd e (by decide))⟩ | exact ⟨Or.inr rfl, HJ.out.put (i := 5) (by decide) (by decide) (fun e => absurd e (by decide))⟩
      · refine ⟨(fun g b h => by cases h), fun ls w' hl hdp hJ hg ρ h1 h2 h3 h4 h5 => ?_⟩
        have HJ := hid hJ
        clear hJ
        have f82 : ρ (.tmp 82) = .pointer (some ⟨C, 0, none⟩) := h4 0 82 (by kernel_rfl) (by kernel_rfl)
        have f83 : ρ (.tmp 83) = .pointer (some ⟨b, 0, none⟩) := h4 1 83 (by kernel_rfl) (by kernel_rfl)
        have f87 : ρ (.tmp 87) = .agg #[.int .u8 kind, .int .i64 th, .int .i64 tx, .int .i64 at_, .int .i64 v, .int .i64 x', .int .u8 why] := h4 5 87 (by kernel_rfl) (by kernel_rfl)
        have h0 := HJ.out.s0 hl
        have HW := hid (HC0.out w' h0)
        clear h0 h4 h5 hg
        unfold OpY
        go_simp
        unfold OpR
        refine HW.out.mono ?_
        rintro e' w'' ⟨rfl, hs1⟩
        first | exact ⟨_, rfl, rfl, HJ.out.first hl (by decide) (by decide) hs1⟩ | exact ⟨_, rfl, Or.inr rfl, HJ.out.first hl (by decide) (by decide) hs1⟩
      · refine ⟨(fun g b h => by cases h), fun ls w' hl hdp hJ hg ρ h1 h2 h3 h4 h5 => ?_⟩
        have HJ := hid hJ
        clear hJ
        have f13 : ρ (.tmp 13) = .pointer (some ⟨D, 0, none⟩) := h5 13 (by kernel_rfl)
        clear h4 h5 hg
        unfold OpY
        go_simp
        first | exact ⟨rfl, HJ.out.put (i := 7) (by decide) (by decide) (fun e => absurd e (by decide))⟩ | exact ⟨Or.inr rfl, HJ.out.put (i := 7) (by decide) (by decide) (fun e => absurd e (by decide))⟩
      · refine ⟨(fun g b h => by cases h), fun ls w' hl hdp hJ hg ρ h1 h2 h3 h4 h5 => ?_⟩
        have HJ := hid hJ
        clear hJ
        have f17 : ρ (.tmp 17) = .pointer (some ⟨rb, 0, none⟩) := h5 17 (by kernel_rfl)
        clear h4 h5 hg
        unfold OpY
        go_simp
        first | exact ⟨rfl, HJ.out.put (i := 8) (by decide) (by decide) (fun e => absurd e (by decide))⟩ | exact ⟨Or.inr rfl, HJ.out.put (i := 8) (by decide) (by decide) (fun e => absurd e (by decide))⟩
      · refine ⟨(fun g b h => by cases h), fun ls w' hl hdp hJ hg ρ h1 h2 h3 h4 h5 => ?_⟩
        have HJ := hid hJ
        clear hJ
        have f4 : ρ (.tmp 4) = .slice (some ⟨b', o, none⟩) l.length cap := h5 4 (by kernel_rfl)
        clear h4 h5 hg
        unfold OpY
        go_simp
        first | exact ⟨rfl, HJ.out.put (i := 9) (by decide) (by decide) (fun e => absurd e (by decide))⟩ | exact ⟨Or.inr rfl, HJ.out.put (i := 9) (by decide) (by decide) (fun e => absurd e (by decide))⟩
      · refine ⟨(fun g b h => by cases h), fun ls w' hl hdp hJ hg ρ h1 h2 h3 h4 h5 => ?_⟩
        have HJ := hid hJ
        clear hJ
        have f19 : ρ (.tmp 19) = .int .i64 (k : Int) := h5 19 (by kernel_rfl)
        clear h4 h5 hg
        unfold OpY
        go_simp
        first | exact ⟨rfl, HJ.out.put (i := 10) (by decide) (by decide) (fun e => absurd e (by decide))⟩ | exact ⟨Or.inr rfl, HJ.out.put (i := 10) (by decide) (by decide) (fun e => absurd e (by decide))⟩
      · refine ⟨(fun g b h => by cases h), fun ls w' hl hdp hJ hg ρ h1 h2 h3 h4 h5 => ?_⟩
        have HJ := hid hJ
        clear hJ
        have f91 : ρ (.tmp 91) = .slice (some ⟨b', o, none⟩) l.length cap := h4 9 91 (by kernel_rfl) (by kernel_rfl)
        have f92 : ρ (.tmp 92) = .int .i64 (k : Int) := h4 10 92 (by kernel_rfl) (by kernel_rfl)
        clear h4 h5 hg
        unfold OpY
        go_simp
        first | exact ⟨rfl, HJ.out.put (i := 11) (by decide) (by decide) (fun e => absurd e (by decide))⟩ | exact ⟨Or.inr rfl, HJ.out.put (i := 11) (by decide) (by decide) (fun e => absurd e (by decide))⟩
      · refine ⟨(fun g b h => by cases h), fun ls w' hl hdp hJ hg ρ h1 h2 h3 h4 h5 => ?_⟩
        have HJ := hid hJ
        clear hJ
        have f93 : ρ (.tmp 93) = .pointer (some ⟨b', o + k * 7, none⟩) := h4 11 93 (by kernel_rfl) (by kernel_rfl)
        have hbw := HJ.out.all HBE0.out HBE1.out HBE2.out
        have c0 := HCS.out.1 w' hbw
        have c1 := HCS.out.2.1 w' hbw
        have c2 := HCS.out.2.2.1 w' hbw
        have c3 := HCS.out.2.2.2.1 w' hbw
        have c4 := HCS.out.2.2.2.2.1 w' hbw
        have c5 := HCS.out.2.2.2.2.2.1 w' hbw
        have c6 := HCS.out.2.2.2.2.2.2 w' hbw
        clear hbw
        clear h4 h5 hg
        unfold OpY
        go_simp
        first | exact ⟨rfl, HJ.out.put (i := 12) (by decide) (by decide) (fun e => absurd e (by decide))⟩ | exact ⟨Or.inr rfl, HJ.out.put (i := 12) (by decide) (by decide) (fun e => absurd e (by decide))⟩
      · refine ⟨(fun g b h => by cases h), fun ls w' hl hdp hJ hg ρ h1 h2 h3 h4 h5 => ?_⟩
        have HJ := hid hJ
        clear hJ
        have f89 : ρ (.tmp 89) = .pointer (some ⟨D, 0, none⟩) := h4 7 89 (by kernel_rfl) (by kernel_rfl)
        have f90 : ρ (.tmp 90) = .pointer (some ⟨rb, 0, none⟩) := h4 8 90 (by kernel_rfl) (by kernel_rfl)
        have f94 : ρ (.tmp 94) = .agg #[.int .u8 kind, .int .i64 th, .int .i64 tx, .int .i64 at_, .int .i64 v, .int .i64 x', .int .u8 why] := h4 12 94 (by kernel_rfl) (by kernel_rfl)
        have hp := hdp 6 (by kernel_rfl)
        have h0 := HJ.out.s1 hp hl
        have HW := hid (HC1.out w' h0)
        clear h0 h4 h5 hg
        unfold OpY
        go_simp
        unfold OpR
        refine HW.out.mono ?_
        rintro e' w'' ⟨rfl, hs1⟩
        first | exact ⟨_, rfl, rfl, HJ.out.second hl hp (by decide) hs1⟩ | exact ⟨_, rfl, Or.inr rfl, HJ.out.second hl hp (by decide) hs1⟩
      · refine ⟨(fun g b h => by cases h), fun ls w' hl hdp hJ hg ρ h1 h2 h3 h4 h5 => ?_⟩
        have HJ := hid hJ
        clear hJ
        have f88 : ρ (.tmp 88) = .int .i64 r := h4 6 88 (by kernel_rfl) (by kernel_rfl)
        have f95 : ρ (.tmp 95) = .int .i64 r := h4 13 95 (by kernel_rfl) (by kernel_rfl)
        clear h4 h5 hg
        unfold OpY
        go_simp
        first | exact ⟨rfl, HJ.out.put (i := 14) (by decide) (by decide) (fun e => absurd e (by decide))⟩ | exact ⟨Or.inr rfl, HJ.out.put (i := 14) (by decide) (by decide) (fun e => absurd e (by decide))⟩
      · refine ⟨(fun g b h => by cases h), fun ls w' hl hdp hJ hg ρ h1 h2 h3 h4 h5 => ?_⟩
        have HJ := hid hJ
        clear hJ
        have f96 : ρ (.tmp 96) = .bool false := h4 14 96 (by kernel_rfl) (by kernel_rfl)
        clear h4 h5 hg
        unfold OpY
        go_simp
        first | exact ⟨rfl, HJ.out.put (i := 15) (by decide) (by decide) (fun _ => hdp 13 (by kernel_rfl))⟩ | exact ⟨Or.inr rfl, HJ.out.put (i := 15) (by decide) (by decide) (fun _ => hdp 13 (by kernel_rfl))⟩
      · refine ⟨(fun g b h => by
        obtain ⟨rfl, rfl⟩ := Prod.mk.inj (Option.some.inj h)
        exact ⟨false, rfl, fun h => absurd rfl h⟩), fun ls w' hl hdp hJ hg ρ h1 h2 h3 h4 h5 => ?_⟩
        have HJ := hid hJ
        clear hJ
        have f15 : ρ (.tmp 15) = .pointer (some ⟨b, 0, none⟩) := h5 15 (by kernel_rfl)
        clear h4 h5 hg
        unfold OpY
        go_simp
        first | exact ⟨rfl, HJ.out.put (i := 16) (by decide) (by decide) (fun e => absurd e (by decide))⟩ | exact ⟨Or.inr rfl, HJ.out.put (i := 16) (by decide) (by decide) (fun e => absurd e (by decide))⟩
      · refine ⟨(fun g b h => by
        obtain ⟨rfl, rfl⟩ := Prod.mk.inj (Option.some.inj h)
        exact ⟨false, rfl, fun h => absurd rfl h⟩), fun ls w' hl hdp hJ hg ρ h1 h2 h3 h4 h5 => ?_⟩
        have HJ := hid hJ
        clear hJ
        have f98 : ρ (.tmp 98) = .pointer (some ⟨b, 0, none⟩) := h4 16 98 (by kernel_rfl) (by kernel_rfl)
        have HW := hid (HTX.out w' (HJ.out.s2 (HJ.out.o2 (hdp 15 (by kernel_rfl)))))
        clear h4 h5 hg
        unfold OpY
        go_simp
        unfold OpR
        refine HW.out.mono ?_
        rintro e' w'' ⟨rfl, rfl⟩
        first | exact ⟨_, rfl, rfl, HJ.out.put (i := 17) (by decide) (by decide) (fun e => absurd e (by decide))⟩ | exact ⟨_, rfl, Or.inr rfl, HJ.out.put (i := 17) (by decide) (by decide) (fun e => absurd e (by decide))⟩
      · refine ⟨(fun g b h => by
        obtain ⟨rfl, rfl⟩ := Prod.mk.inj (Option.some.inj h)
        exact ⟨false, rfl, fun h => absurd rfl h⟩), fun ls w' hl hdp hJ hg ρ h1 h2 h3 h4 h5 => ?_⟩
        have HJ := hid hJ
        clear hJ
        have f17 : ρ (.tmp 17) = .pointer (some ⟨rb, 0, none⟩) := h5 17 (by kernel_rfl)
        clear h4 h5 hg
        unfold OpY
        go_simp
        first | exact ⟨rfl, HJ.out.put (i := 18) (by decide) (by decide) (fun e => absurd e (by decide))⟩ | exact ⟨Or.inr rfl, HJ.out.put (i := 18) (by decide) (by decide) (fun e => absurd e (by decide))⟩
      · refine ⟨(fun g b h => by
        obtain ⟨rfl, rfl⟩ := Prod.mk.inj (Option.some.inj h)
        exact ⟨false, rfl, fun h => absurd rfl h⟩), fun ls w' hl hdp hJ hg ρ h1 h2 h3 h4 h5 => ?_⟩
        have HJ := hid hJ
        clear hJ
        have f100 : ρ (.tmp 100) = .pointer (some ⟨rb, 0, none⟩) := h4 18 100 (by kernel_rfl) (by kernel_rfl)
        clear h4 h5 hg
        unfold OpY
        go_simp
        first | exact ⟨rfl, HJ.out.put (i := 19) (by decide) (by decide) (fun e => absurd e (by decide))⟩ | exact ⟨Or.inr rfl, HJ.out.put (i := 19) (by decide) (by decide) (fun e => absurd e (by decide))⟩
      · refine ⟨(fun g b h => by
        obtain ⟨rfl, rfl⟩ := Prod.mk.inj (Option.some.inj h)
        exact ⟨false, rfl, fun h => absurd rfl h⟩), fun ls w' hl hdp hJ hg ρ h1 h2 h3 h4 h5 => ?_⟩
        have HJ := hid hJ
        clear hJ
        have f101 : ρ (.tmp 101) = .pointer (some ⟨rb, 0, none⟩) := h4 19 101 (by kernel_rfl) (by kernel_rfl)
        clear h4 h5 hg
        unfold OpY
        go_simp
        first | exact ⟨rfl, HJ.out.put (i := 20) (by decide) (by decide) (fun e => absurd e (by decide))⟩ | exact ⟨Or.inr rfl, HJ.out.put (i := 20) (by decide) (by decide) (fun e => absurd e (by decide))⟩
      · refine ⟨(fun g b h => by
        obtain ⟨rfl, rfl⟩ := Prod.mk.inj (Option.some.inj h)
        exact ⟨false, rfl, fun h => absurd rfl h⟩), fun ls w' hl hdp hJ hg ρ h1 h2 h3 h4 h5 => ?_⟩
        have HJ := hid hJ
        clear hJ
        have f102 : ρ (.tmp 102) = .pointer (some ⟨rb, 1, none⟩) := h4 20 102 (by kernel_rfl) (by kernel_rfl)
        have cr := HRB.out w' (HJ.out.s2 (HJ.out.o2 (hdp 15 (by kernel_rfl))))
        clear h4 h5 hg
        unfold OpY
        go_simp
        first | exact ⟨rfl, HJ.out.put (i := 21) (by decide) (by decide) (fun e => absurd e (by decide))⟩ | exact ⟨Or.inr rfl, HJ.out.put (i := 21) (by decide) (by decide) (fun e => absurd e (by decide))⟩
      · refine ⟨(fun g b h => by
        obtain ⟨rfl, rfl⟩ := Prod.mk.inj (Option.some.inj h)
        exact ⟨false, rfl, fun h => absurd rfl h⟩), fun ls w' hl hdp hJ hg ρ h1 h2 h3 h4 h5 => ?_⟩
        have HJ := hid hJ
        clear hJ
        have f99 : ρ (.tmp 99) = .string txt := h4 17 99 (by kernel_rfl) (by kernel_rfl)
        have f103 : ρ (.tmp 103) = .string txt := h4 21 103 (by kernel_rfl) (by kernel_rfl)
        clear h4 h5 hg
        unfold OpY
        go_simp
        first | exact ⟨rfl, HJ.out.put (i := 22) (by decide) (by decide) (fun e => absurd e (by decide))⟩ | exact ⟨Or.inr rfl, HJ.out.put (i := 22) (by decide) (by decide) (fun e => absurd e (by decide))⟩
      · refine ⟨(fun g b h => by cases h), fun ls w' hl hdp hJ hg ρ h1 h2 h3 h4 h5 => ?_⟩
        have HJ := hid hJ
        clear hJ
        have f97 : ρ (.tmp 97) = .bool false := h4 15 97 (by kernel_rfl) (by kernel_rfl)
        have f104 : ρ (.tmp 104) = .bool false := h4 22 104 (by kernel_rfl) (by kernel_rfl)
        clear h4 h5 hg
        unfold OpY
        go_simp
        first | exact ⟨rfl, HJ.out.put (i := 23) (by decide) (by decide) (fun e => absurd e (by decide))⟩ | exact ⟨Or.inr rfl, HJ.out.put (i := 23) (by decide) (by decide) (fun e => absurd e (by decide))⟩
    case hdone =>
      intro w3 hJ
      have hz := hJ.s2 rfl
      rw [HS2.out] at hz
      obtain ⟨⟨u', hd⟩, hX, hY⟩ := hz
      have HD3 := hid hd
      have HX3 := hid hX
      have HY3 := hid hY
      clear hJ hd hX hY HS0 HC0 HC1 HTX HRB HBE0 HBE1 HBE2 HS2 HCS
      have hmm : (k : Int).tmod 7 = (k : Int) % 7 := Int.tmod_eq_emod_of_nonneg (by omega)
      have hmw : IntKind.i64.wrap ((k : Int) % 7) = (k : Int) % 7 := IntWalk.i64_in _ (by omega)
      by_cases h7 : (k : Int) % 7 = 6
      · have q1 : ((k : Int) % 7 == 6) = true := by rw [beq_iff_eq]; exact h7
        clear h7
        go_wp2_with fail
        go_roundw
        case rel => exact ⟨k + 1, X, Y, c, bs2, u', by have := HLT.out; omega, rfl, rfl, by simp, hid ⟨HX3.out, HY3.out, HD3.out.wr, HD3.out.rw, ⟨HXL.out.1, HYL.out.1, HD3.out.lo.2.2.1, HD3.out.lo.2.2.2⟩, HD3.out.be, HOKC.out, HOKC.out, HD3.out.le, HD3.out.by1, HD3.out.by2⟩⟩
        case measure => have := HLT.out; simp [intOf]; omega
      · have q1 : ((k : Int) % 7 == 6) = false := by rw [beq_eq_false_iff_ne]; exact h7
        have q2 : decide ((k : Int) % 7 = 6) = false := by rw [decide_eq_false_iff_not]; exact h7
        clear h7
        go_wp2_with fail
        go_roundw
        case rel => exact ⟨k + 1, C, D, c2, bs2, u', by have := HLT.out; omega, rfl, rfl, by simp, HD3⟩
        case measure => have := HLT.out; simp [intOf]; omega
theorem deltaWrites_any (T V S most : Int) (a : Option Addr) (l : List Ev) (cap : Nat) (W : World) (hE : EvsAt W a l) (hKd : KindsAt W) (hNm : NamesR W) : Calls Tryd.prog 4 #[.int .i64 T, .int .i64 V, .int .i64 S, .int .i64 most, .slice a l.length cap] W fun e' W' => e' = .returned (.bool true) ∧ Below W.heap.size W W' := by
  by_cases hl : l.length ≤ 400
  · by_cases hm : 0 ≤ most ∧ most ≤ 16777216
    · cases hz : sizesB T V S with
      | true => exact writes_ok T V S most a l cap W hE hKd hNm hl hz hm
      | false => exact writes_bo T V S most a l cap W hKd hl hz hm
    · cases hz : sizesB T V S with
      | true => exact writes_ob T V S most a l cap W hKd hl hz (by omega)
      | false => exact writes_bb T V S most a l cap W hKd hl hz (by omega)
  · exact writes_great T V S most a l cap W hKd (by omega)
end Go.Proofs.YtokkafiphchejaaDoor
