/-
  Copies of setups by the document, walked.
-/
import Derived.Test.YtoeegiaajngpeaaCpO
import Derived.Test.YtoeegiaajngpeaaCpT1
import Derived.Test.YtoeegiaajngpeaaDeL8a
namespace Go.Proofs.Ytoeegiaajngpeaa
set_option linter.unusedVariables false
set_option linter.unusedSimpArgs false
set_option linter.unusedVariables false
open Go Go.RowKit
theorem ints_slice {w : World} {l : List Int} {v : Value} (h : RdInts w l v) : ∃ p c, v = .slice p l.length c := by
  obtain ⟨p, c, rfl, -⟩ := h
  exact ⟨p, c, rfl⟩
theorem owns_slice {w : World} {base size n : Nat} {e : TypeId} {v : Value} {xs : List Value} (h : w.ownsRow base e size v n xs) : ∃ p c, v = .slice p n c := by
  obtain ⟨-, ⟨rfl, rfl⟩ | ⟨g, cap, cur, rfl, -⟩⟩ := h
  · exact ⟨_, _, rfl⟩
  · exact ⟨_, _, rfl⟩
theorem owns_cap {w : World} {base size n c : Nat} {p : Option Addr} {e : TypeId} {xs : List Value} (h : w.ownsRow base e size (.slice p n c) n xs) : n ≤ c := by
  obtain ⟨-, ⟨h1, h2⟩ | ⟨g, cap, cur, h1, -, -, h3, -⟩⟩ := h
  · cases h1; exact Nat.le_refl _
  · cases h1; exact h3
theorem own_empty {base g : Nat} {e : TypeId} (W : World) (hg : g = W.heap.size) (hb : base ≤ W.heap.size) : (W.alloc (.cells #[] e)).ownsRow base e 1 (.slice (some ⟨g, 0, none⟩) 0 0) 0 [] := by
  subst hg
  exact World.ownsRow_lit W #[] 0 hb (by decide) rfl
/-- What is known between the rounds over threads. -/
structure RsI (w w1 : World) (st ck tr : Int) (is : List Int) (ths : List (List (List St))) (vi vi' : Value) (a : Option Addr) (cap : Nat) (k : Nat) (v : Value) (news : List Value) (wr : World) : Prop where
  row : RowG (R1 RdThC) 1 32 wr w1.heap.size ths k v news
  b0 : Blk wr w.heap.size #[.int .i64 st, .int .i64 ck, .int .i64 tr, vi, .slice a ths.length cap] 25
  b1 : Blk wr (w.heap.size + 1) #[.int .i64 0, .int .i64 0, .int .i64 0, .slice none 0 0, .slice none 0 0] 25
  b2 : Blk wr (w.heap.size + 1 + 1) #[.int .i64 st, .int .i64 ck, .int .i64 tr, vi', v] 25
  bw : Below w.heap.size w wr
  ag : Agree (w.heap.size + 3) w1.heap.size w1 wr
  sz : w.heap.size + 3 ≤ w1.heap.size
theorem rs_low {w w1 wo wr w4 : World} {st ck tr : Int} {is : List Int} {ths : List (List (List St))} {vi vi' : Value} {a : Option Addr} {cap k : Nat} {v : Value} {news : List Value} {o : Obj}
    (H : RsI w w1 st ck tr is ths vi vi' a cap k v news wo) (hb : Below wo.heap.size wo wr) (hg : (wr.alloc o).grownBy w4 v.ownBlock) : Blk w4 (w.heap.size + 1 + 1) #[.int .i64 st, .int .i64 ck, .int .i64 tr, vi', v] 25 := by
  have h1 := H.row.2.1
  have h2 := hb.size
  have h3 := H.sz
  have : w4.heap[w.heap.size + 1 + 1]? = wr.heap[w.heap.size + 1 + 1]? := by
    rw [hg.block _ (by simp; omega) (fun he => by have := (rowG_own H.row _ he.symm).1; omega)]
    exact (ext_alloc (ext_refl wr) o).block _ (by omega)
  exact this.trans (H.b2.below hb)
set_option maxRecDepth 100000 in
set_option maxHeartbeats 4000000 in
theorem rscopy_any (st ck tr : Int) (is : List Int) (ths : List (List (List St))) (vi v : Value) (w : World) (hi : RdInts w is vi) (hr : RdThs w ths v) (hil : is.length ≤ 1000000) (hll : ths.length ≤ 20) (hok : ∀ th ∈ ths, okTh th) :
    Calls Try.prog 9 #[.agg #[.int .i64 st, .int .i64 ck, .int .i64 tr, vi, v]] w (SCopyG st ck tr is ths w) := by
  obtain ⟨pi, ci, rfl⟩ := ints_slice hi
  have HRS := hid hr
  obtain ⟨a, cap, rfl, hlen, hx⟩ := hr
  have HX := hid hx
  have HI := hid hi
  have HIL := hid hil
  have HLL := hid hll
  have HOK := hid hok
  clear hi hx hil hll hok
  obtain ⟨ti1, hi1, hz1, hz2, hz3⟩ := info_parts infoTh
  obtain ⟨ti2, hi2, hy1, hy2, hy3⟩ := info_parts infoStmts
  obtain ⟨v1, w1, hrun, hown, hgr⟩ := run_append_ints (ty := 22) (w := ((((w.alloc (.cells #[.int .i64 st, .int .i64 ck, .int .i64 tr, .slice pi is.length ci, .slice a ths.length cap] 25)).alloc (.cells #[.int .i64 0, .int .i64 0, .int .i64 0, .slice none 0 0, .slice none 0 0] 25)).alloc (.cells #[.int .i64 st, .int .i64 ck, .int .i64 tr, .slice pi is.length ci, .slice a ths.length cap] 25)).alloc (.cells #[] 2)))
    (base := w.heap.size + 3) (g := w.heap.size + 3) (HI.out.below (ext_alloc (ext_alloc (ext_alloc (ext_alloc (ext_refl _) _) _) _) _)) HIL.out (own_empty _ (by simp) (by simp)) (by simp)
  have HRUN := hid hrun
  obtain ⟨p1, c1, rfl⟩ := owns_slice hown
  have hs1 : w.heap.size + 4 ≤ w1.heap.size := by have := hgr.size; simp at this; omega
  have hbk : ∀ b, b < w.heap.size + 3 → w1.heap[b]? = ((((w.alloc (.cells #[.int .i64 st, .int .i64 ck, .int .i64 tr, .slice pi is.length ci, .slice a ths.length cap] 25)).alloc (.cells #[.int .i64 0, .int .i64 0, .int .i64 0, .slice none 0 0, .slice none 0 0] 25)).alloc (.cells #[.int .i64 st, .int .i64 ck, .int .i64 tr, .slice pi is.length ci, .slice a ths.length cap] 25)).alloc (.cells #[] 2)).heap[b]? := fun b hb => hgr.block b (by simp; omega) (by intro h; cases h; omega)
  have hb0 : Blk w1 w.heap.size #[.int .i64 st, .int .i64 ck, .int .i64 tr, .slice pi is.length ci, .slice a ths.length cap] 25 := (hbk _ (by omega)).trans (by have : Blk _ _ _ _ := (((Blk.new w #[.int .i64 st, .int .i64 ck, .int .i64 tr, .slice pi is.length ci, .slice a ths.length cap] 25).alloc (.cells #[.int .i64 0, .int .i64 0, .int .i64 0, .slice none 0 0, .slice none 0 0] 25)).alloc (.cells #[.int .i64 st, .int .i64 ck, .int .i64 tr, .slice pi is.length ci, .slice a ths.length cap] 25)).alloc (.cells #[] 2); exact this)
  have hb1 : Blk w1 (w.heap.size + 1) #[.int .i64 0, .int .i64 0, .int .i64 0, .slice none 0 0, .slice none 0 0] 25 := (hbk _ (by omega)).trans (by have : Blk _ _ _ _ := ((Blk.new' (w.alloc (.cells #[.int .i64 st, .int .i64 ck, .int .i64 tr, .slice pi is.length ci, .slice a ths.length cap] 25)) #[.int .i64 0, .int .i64 0, .int .i64 0, .slice none 0 0, .slice none 0 0] 25 (b := w.heap.size + 1) (by simp)).alloc (.cells #[.int .i64 st, .int .i64 ck, .int .i64 tr, .slice pi is.length ci, .slice a ths.length cap] 25)).alloc (.cells #[] 2); exact this)
  have hb2 : Blk w1 (w.heap.size + 1 + 1) #[.int .i64 st, .int .i64 ck, .int .i64 tr, .slice pi is.length ci, .slice a ths.length cap] 25 := (hbk _ (by omega)).trans (by have : Blk _ _ _ _ := (Blk.new' ((w.alloc (.cells #[.int .i64 st, .int .i64 ck, .int .i64 tr, .slice pi is.length ci, .slice a ths.length cap] 25)).alloc (.cells #[.int .i64 0, .int .i64 0, .int .i64 0, .slice none 0 0, .slice none 0 0] 25)) #[.int .i64 st, .int .i64 ck, .int .i64 tr, .slice pi is.length ci, .slice a ths.length cap] 25 (b := w.heap.size + 1 + 1) (by simp)).alloc (.cells #[] 2); exact this)
  have hbw : Below w.heap.size w w1 := (ext_alloc (ext_alloc (ext_alloc (ext_alloc (ext_refl _) _) _) _) _).grown hgr (by simp; omega) (fun g hg => by cases hg; omega)
  have HOWN := hid hown
  have HRNG : Hid (∀ x ∈ is, -9223372036854775808 ≤ x ∧ x ≤ 9223372036854775807) := hid (by obtain ⟨-, -, -, -, h, -⟩ := HI.out; exact h)
  have HB0 := hid hb0
  have HB1 := hid hb1
  have HBW := hid hbw
  have hset := (hb2.set 3 (.slice p1 is.length c1)).set 4 (.slice none 0 0)
  simp at hset
  have HSET := hid hset
  have HS1 := hid hs1
  have e3 := hb2.free 3
  have e4 := hb2.free 4
  have q3 := hb2.cell 3 (v := .slice pi is.length ci) rfl
  have q4 := hb2.cell 4 (v := .slice a ths.length cap) rfl
  have lc := hb2.lt
  clear hown hgr hbk hb0 hb1 hbw hset hs1 hrun hb2
  go_enter Try.func9, Try.ntmps9
  go_wp2_with (at_builtin; refine wpList_append_run rfl (.tmp 8) (.tmp 10) 22 22 _ _ (.slice p1 is.length c1) rfl rfl rfl HRUN.out ?_)
  go_loopw [4] (fun i wr => ∃ (k : Nat) (v : Value) (news : List Value), k ≤ ths.length ∧ i = .int .i64 k ∧ Hid (RsI w w1 st ck tr is ths (.slice pi is.length ci) (.slice p1 is.length c1) a cap k v news wr)) (fun i _ => ths.length - (intOf i).toNat)
  case atStart =>
    exact ⟨0, .slice none 0 0, [], Nat.zero_le _, rfl, hid ⟨rowG_nil (by simp [size_setCell]), (HB0.out.set_other _ _ (by simp; omega)).set_other _ _ (by simp; omega), (HB1.out.set_other _ _ (by simp)).set_other _ _ (by simp), HSET.out, ext_set (ext_set HBW.out (by simp; omega) _) (by simp; omega) _, (Agree.set _ _ (by simp)).trans (Agree.set _ _ (by simp)), by have := HS1.out; omega⟩⟩
  case round =>
    clear e3 e4 q3 q4 lc HB0 HB1 HSET HBW
    obtain ⟨wo, rfl⟩ : ∃ wo, wo = wr := ⟨_, rfl⟩
    obtain ⟨k, v, news, hk, rfl, HR⟩ := hrel
    have hll := HLL.out
    have c4 := HR.out.b0.cell 4 (v := .slice a ths.length cap) rfl
    have lb0 := HR.out.b0.lt
    have lb2 := HR.out.b2.lt
    by_cases hlt : k < ths.length
    · obtain ⟨q, off, rfl, hrd⟩ := HX.out (by intro h; subst h; simp at hlt)
      obtain ⟨vt, g0, ht⟩ := RdRow.get ths hrd k hlt
      have hokt := HOK.out _ (List.getElem_mem hlt)
      have hbw := HR.out.bw
      have HRT := hid (ht.below hbw)
      obtain ⟨pt, ct, rfl, hlt', hxt⟩ := ht
      have d0 := later hbw g0
      have lq := lt_of_cell d0
      obtain ⟨th, hth⟩ : ∃ th, ths[k]'hlt = th := ⟨_, rfl⟩
      rw [hth] at hokt HRT g0 d0 hlt' hxt
      have HTH := hid hth
      have HG0 := hid g0
      have HXT := hid hxt
      have HOKT := hid hokt
      have HLT := hid hlt
      have j1 : decide ((k : Int) < (ths.length : Int)) = true := by rw [decide_eq_true_iff]; omega
      have j1n : decide (k < ths.length) = true := decide_eq_true hlt
      have j2 : (0 : Int) ≤ (k : Int) := by omega
      have j3 : IntKind.i64.wrap ((k : Int) + 1) = (k : Int) + 1 := IntWalk.i64_in _ (by omega)
      have hl20 := hokt.1
      clear hrd g0 hxt hokt hth hbw
      go_wp2_with fail
      go_loopw [5, 6] (fun x i wr => ∃ (j : Nat) (v5 : Value) (n5 : List Value), j ≤ th.length ∧ i = .int .i64 j ∧ x = v5 ∧ Hid (RowG (R1 RdTx) 1 37 wr wo.heap.size th j v5 n5) ∧ Hid (Below wo.heap.size wo wr)) (fun _ i _ => th.length - (intOf i).toNat)
      case atStart => exact ⟨0, .slice none 0 0, [], Nat.zero_le _, rfl, rfl, hid (rowG_nil (Nat.le_refl _)), hid (ext_refl _)⟩
      case round =>
        obtain ⟨j, v5, n5, hj, rfl, rfl, HROW, HBX⟩ := hrel
        obtain ⟨A5, c5, rfl⟩ := rowG_slice HROW.out
        have x4 := later HBX.out c4
        have y0 := later HBX.out d0
        have lx := lt_of_cell x4
        have ly := lt_of_cell y0
        have hl20 := HOKT.out.1
        by_cases hlj : j < th.length
        · obtain ⟨q', off', rfl, hrd'⟩ := HXT.out (by intro h; subst h; simp at hlj)
          obtain ⟨vx, f0, htx⟩ := RdRow.get th hrd' j hlj
          have hbx0 := ext_trans HR.out.bw HBX.out
          have HTX := hid (htx.below hbx0)
          obtain ⟨px, cx, rfl, -, -⟩ := htx
          have z0 := later hbx0 f0
          have lz := lt_of_cell z0
          have hokx := HOKT.out.2 _ (List.getElem_mem hlj)
          obtain ⟨tx, htx⟩ : ∃ tx, th[j]'hlj = tx := ⟨_, rfl⟩
          rw [htx] at HTX z0 hokx
          have HTXE := hid htx
          have HLJ := hid hlj
          have HC := hid (rtcopy_any (sizeT tx) tx _ _ (Nat.le_refl _) hokx.1 hokx.2 HTX.out)
          have i1 : decide ((j : Int) < (th.length : Int)) = true := by rw [decide_eq_true_iff]; omega
          have i1n : decide (j < th.length) = true := decide_eq_true hlj
          have i2 : (0 : Int) ≤ (j : Int) := by omega
          have i3 : IntKind.i64.wrap ((j : Int) + 1) = (j : Int) + 1 := IntWalk.i64_in _ (by omega)
          have hm1 : j + 1 ≤ maxLen := by unfold maxLen; omega
          have hm2 : (j + 1) * 24 ≤ 140737488355328 := by omega
          have HM1 := hid hm1
          have HM2 := hid hm2
          clear hrd' f0 hokx htx hm1 hm2 hbx0
          go_wp2_with fail
          refine HC.out.mono ?_
          rintro e w3 ⟨v3, rfl, hb3, hcp⟩
          obtain ⟨p3, c3, rfl, -, -⟩ := hcp w3 (Agree.refl _ _ _)
          have HCP := hid hcp
          have HB3 := hid hb3
          have hrow3 := rowG_agree HROW.out ((Agree.of_below (lo := wo.heap.size) hb3)) hb3.size
          have hown3 : (w3.alloc (.cells #[.slice p3 tx.length c3] 37)).ownsRow wo.heap.size 37 1 (.slice A5 j c5) j n5 := ownsRow_frame hrow3.1 fun g hg => (ext_alloc (ext_refl w3) _).block g (hrow3.1.lt g hg).2
          have HOWN3 := hid hown3
          have HSZ3 : Hid (wo.heap.size ≤ (w3.alloc (.cells #[.slice p3 tx.length c3] 37)).heap.size) := hid (by have := hrow3.2.1; simp; omega)
          clear hcp hb3 hrow3 hown3 x4 y0 z0 lx ly lz
          go_wp2_with (at_builtin; go_must (refine wpList_append_own_at _ rfl (.tmp 31) (.tmp 41) 32 rfl wo.heap.size 37 ti2 _ 1 24 Try.underlying32 hi2 hy1 hy2 hy3 rfl (by decide) (.slice A5 j c5) j n5 rfl HOWN3.out ⟨w3.heap.size, 0, none⟩ 1 1 [.slice p3 tx.length c3] rfl rfl (cell_one_new _ _ _) (by simp [Value.oneCell']) HM1.out HM2.out HSZ3.out ?_); intro v' w4 hown4 hgr4 _hn hd4)
          have HST := hid (rowG_step (R := R1 RdTx) (cs := [.slice p3 tx.length c3]) HLJ.out HROW.out rfl HB3.out (fun w'' h => by rw [HTXE.out]; exact ⟨_, rfl, HCP.out w'' h⟩) (ext_alloc (ext_refl w3) (.cells #[.slice p3 tx.length c3] 37)) hown4 hgr4 hd4)
          have HBX4 : Hid (Below wo.heap.size wo w4) := hid (by
            have h1 := ext_alloc (ext_trans HBX.out HB3.out) (.cells #[.slice p3 tx.length c3] 37)
            exact h1.grown hgr4 h1.size (fun g hg => (rowG_own HROW.out g hg).1))
          clear hown4 hgr4 hd4
          go_roundw
          case rel => exact ⟨j + 1, _, _, HLJ.out, by go_num, rfl, HST, HBX4⟩
          case measure => have := HLJ.out; simp [intOf]; omega
        · obtain rfl : j = th.length := by omega
          have i1 : decide ((th.length : Int) < (th.length : Int)) = false := by rw [decide_eq_false_iff_not]; omega
          have i1n : decide (th.length < th.length) = false := by simp
          obtain ⟨vA, vc, rfl⟩ := rowG_slice HR.out.row
          have hb2x := HR.out.b2.below HBX.out
          have s4 := hb2x.cell 4 (v := .slice vA k vc) rfl
          have sf := hb2x.free 4
          have ls := hb2x.lt
          have hrowx := rowG_agree HR.out.row (Agree.of_below (lo := w1.heap.size) HBX.out) HBX.out.size
          have hownx : (wr.alloc (.cells #[.slice A5 th.length c5] 32)).ownsRow w1.heap.size 32 1 (.slice vA k vc) k news := ownsRow_frame hrowx.1 fun g hg => (ext_alloc (ext_refl wr) _).block g (hrowx.1.lt g hg).2
          have HOWNX := hid hownx
          have HSZX : Hid (w1.heap.size ≤ (wr.alloc (.cells #[.slice A5 th.length c5] 32)).heap.size) := hid (by have := hrowx.2.1; simp; omega)
          have HCP : Hid (∀ w'', Agree wo.heap.size wr.heap.size wr w'' → RdThC w'' th (.slice A5 th.length c5)) := hid (fun w'' h => ⟨RdSl.of_G (rowG_end hlt' HROW.out w'' h), _, _, rfl, owns_cap HROW.out.1⟩)
          have hm1 : k + 1 ≤ maxLen := by unfold maxLen; have := HLL.out; have := HLT.out; omega
          have hm2 : (k + 1) * 24 ≤ 140737488355328 := by have := HLL.out; have := HLT.out; omega
          have HM1 := hid hm1
          have HM2 := hid hm2
          have HB2X := hid hb2x
          clear hrowx hownx hm1 hm2 hb2x
          go_wp2_with (at_builtin; go_must (refine wpList_append_own_at _ rfl (.tmp 44) (.tmp 46) 23 rfl w1.heap.size 32 ti1 _ 1 24 Try.underlying23 hi1 hz1 hz2 hz3 rfl (by decide) (.slice vA k vc) k news rfl HOWNX.out ⟨wr.heap.size, 0, none⟩ 1 1 [.slice A5 th.length c5] rfl rfl (cell_one_new _ _ _) (by simp [Value.oneCell']) HM1.out HM2.out HSZX.out ?_); intro v' w4 hown4 hgr4 _hn hd4; obtain ⟨p4, c4', rfl⟩ := owns_slice hown4; have HFA := hid (And.intro hown4 (And.intro hgr4 hd4)); have k2 := rs_low HR.out HBX.out hgr4; have K2 := hid k2; have s4' := k2.cell 4 (v := .slice vA k vc) rfl; have sf' := k2.free 4; have ls' := k2.lt; clear hown4 hgr4 hd4 k2 s4 sf ls x4 y0 lx ly)
          obtain ⟨hown4, hgr4, hd4⟩ := HFA.out
          have HST := hid (rowG_step (R := R1 RdThC) (cs := [.slice A5 th.length c5]) HLT.out HR.out.row rfl HBX.out (fun w'' h => by rw [HTH.out]; exact ⟨_, rfl, HCP.out w'' h⟩) (ext_alloc (ext_refl wr) (.cells #[.slice A5 th.length c5] 32)) hown4 hgr4 hd4)
          have hlow : ∀ b, b < w1.heap.size → w4.heap[b]? = wr.heap[b]? := fun b hb => by
            have h1 := HR.out.row.2.1
            have h2 := HBX.out.size
            rw [hgr4.block b (by simp; omega) (fun he => by have := (rowG_own HR.out.row b he.symm).1; omega)]
            exact (ext_alloc (ext_refl wr) _).block b (by omega)
          have HLOW := hid hlow
          have HBW4 : Hid (Below w.heap.size w w4) := hid (by
            have h1 := ext_alloc (ext_trans HR.out.bw HBX.out) (.cells #[.slice A5 th.length c5] 32)
            exact h1.grown hgr4 h1.size (fun g hg => by have := (rowG_own HR.out.row g hg).1; have := HR.out.sz; omega))
          clear hown4 hgr4 hd4 hlow
          go_roundw
          case rel =>
            have hsz := HR.out.sz
            have h1 := HR.out.row.2.1
            have h2 := HBX.out.size
            refine ⟨k + 1, _, _, HLT.out, by go_num, hid ⟨rowG_agree HST.out (Agree.set _ _ (by dsimp only; omega)) (by simp [size_setCell]), ?_, ?_, ?_, ext_set HBW4.out (by dsimp only; omega) _, ?_, hsz⟩⟩
            · exact Blk.set_other ((HLOW.out _ (by omega)).trans (HR.out.b0.below HBX.out)) _ _ (by dsimp only; omega)
            · exact Blk.set_other ((HLOW.out _ (by omega)).trans (HR.out.b1.below HBX.out)) _ _ (by dsimp only; omega)
            · simpa using K2.out.set 4 _
            · refine (HR.out.ag.trans (fun b hb1 hb2 => ?_)).trans (Agree.set _ _ (by dsimp only; omega))
              rw [HLOW.out b hb2]
              exact HBX.out.block b (by omega)
          case measure => have := HLT.out; simp [intOf]; omega
    · obtain rfl : k = ths.length := by omega
      have j1 : decide ((ths.length : Int) < (ths.length : Int)) = false := by rw [decide_eq_false_iff_not]; omega
      have j1n : decide (ths.length < ths.length) = false := by simp
      obtain ⟨vA, vc, rfl⟩ := rowG_slice HR.out.row
      have hB1 := HR.out.b1
      have hB2 := HR.out.b2
      have q0 := hB2.cell 0 (v := .int .i64 st) rfl
      have q1 := hB2.cell 1 (v := .int .i64 ck) rfl
      have q2 := hB2.cell 2 (v := .int .i64 tr) rfl
      have q3 := hB2.cell 3 (v := .slice p1 is.length c1) rfl
      have q4 := hB2.cell 4 (v := .slice vA ths.length vc) rfl
      have r0 := hB1.cell 0 rfl
      have r1 := hB1.cell 1 rfl
      have r2 := hB1.cell 2 rfl
      have r3 := hB1.cell 3 rfl
      have r4 := hB1.cell 4 rfl
      have rf := fun o => hB1.free o
      have hfin := ((((hB1.set 0 (.int .i64 st)).set 1 (.int .i64 ck)).set 2 (.int .i64 tr)).set 3 (.slice p1 is.length c1)).set 4 (.slice vA ths.length vc)
      have t0 := hfin.cell 0 (v := .int .i64 st) (by simp)
      have t1 := hfin.cell 1 (v := .int .i64 ck) (by simp)
      have t2 := hfin.cell 2 (v := .int .i64 tr) (by simp)
      have t3 := hfin.cell 3 (v := .slice p1 is.length c1) (by simp)
      have t4 := hfin.cell 4 (v := .slice vA ths.length vc) (by simp)
      have lb1 := hB1.lt
      have HEND : Hid (SCopyG st ck tr is ths w (.returned (.agg #[.int .i64 st, .int .i64 ck, .int .i64 tr, .slice p1 is.length c1, .slice vA ths.length vc])) (((((wo.setCell ⟨w.heap.size + 1, 0, none⟩ (.int .i64 st)).setCell ⟨w.heap.size + 1, 1, none⟩ (.int .i64 ck)).setCell ⟨w.heap.size + 1, 2, none⟩ (.int .i64 tr)).setCell ⟨w.heap.size + 1, 3, none⟩ (.slice p1 is.length c1)).setCell ⟨w.heap.size + 1, 4, none⟩ (.slice vA ths.length vc))) := hid (by
        have hsz := HR.out.sz
        have hag : ∀ hi, Agree (w.heap.size + 3) hi wo (((((wo.setCell ⟨w.heap.size + 1, 0, none⟩ (.int .i64 st)).setCell ⟨w.heap.size + 1, 1, none⟩ (.int .i64 ck)).setCell ⟨w.heap.size + 1, 2, none⟩ (.int .i64 tr)).setCell ⟨w.heap.size + 1, 3, none⟩ (.slice p1 is.length c1)).setCell ⟨w.heap.size + 1, 4, none⟩ (.slice vA ths.length vc)) := fun hi => ((((Agree.set _ _ (by dsimp only; omega)).trans (Agree.set _ _ (by dsimp only; omega))).trans (Agree.set _ _ (by dsimp only; omega))).trans (Agree.set _ _ (by dsimp only; omega))).trans (Agree.set _ _ (by dsimp only; omega))
        refine ⟨_, w1.heap.size, _, news, rfl, ext_set (ext_set (ext_set (ext_set (ext_set HR.out.bw (by dsimp only; omega) _) (by dsimp only; omega) _) (by dsimp only; omega) _) (by dsimp only; omega) _) (by dsimp only; omega) _, by omega, rowG_agree HR.out.row ((hag _).sub (by omega) (Nat.le_refl _)) (by simp [size_setCell]), fun w'' h => ?_⟩
        exact ints_of_own HRNG.out HOWN.out (Nat.le_refl _) (Nat.le_refl _) ((HR.out.ag.trans (hag _)).trans (h.sub (by omega) (Nat.le_refl _))))
      clear hfin
      go_wp2_with fail
      exact bodyPost_ret (v := .agg #[.int .i64 st, .int .i64 ck, .int .i64 tr, .slice p1 is.length c1, .slice vA ths.length vc]) (by simp [results, Try.results9, go_sem, t0, t1, t2, t3, t4]) rfl HEND.out
end Go.Proofs.Ytoeegiaajngpeaa
