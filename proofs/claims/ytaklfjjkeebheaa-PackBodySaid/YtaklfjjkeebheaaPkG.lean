/-
  Walk: (pack.reader).setup.
-/
import Derived.Test.YtaklfjjkeebheaaPkF
import Derived.Test.YtaklfjjkeebheaaPbR
namespace Go.Proofs.Ytaklfjjkeebheaa
set_option linter.unusedVariables false
set_option linter.unusedSimpArgs false
set_option linter.unusedVariables false
open Go Go.RowKit Go.Lib
/-- The first loop's. -/
structure InA (w : World) (rb : Nat) (s : ByteArray) (tot : List Int × Rdr) (n k : Nat) (wr : World) : Prop where
  ex : ∃ out news r' v, out.length = k ∧ initL (n - k) out r' = tot ∧ RowG (R1 RdI) 1 2 wr (w.heap.size + 3) out k v news ∧ SuI w rb s r' (.int .i64 0) (.int .i64 0) (.int .i64 0) v (.slice none 0 0) wr
/-- The threads' loop's. -/
structure InC (w wA : World) (rb : Nat) (s : ByteArray) (a b c vi : Value) (tot : List (List (List St)) × Rdr) (n k : Nat) (wr : World) : Prop where
  ex : ∃ out news r' v, out.length = k ∧ thsL (n - k) out r' = tot ∧ RowG (R1 RdTh) 1 55 wr wA.heap.size out k v news ∧ SuI w rb s r' a b c vi v wr
  ag : Agree (w.heap.size + 3) wA.heap.size wA wr
  sz : wA.heap.size ≤ wr.heap.size
/-- A thread's loop's. -/
structure InD (wr : World) (rb : Nat) (s : ByteArray) (tot : List (List St) × Rdr) (n k : Nat) (v : Value) (W : World) : Prop where
  ex : ∃ out news r', out.length = k ∧ txsL (n - k) out r' = tot ∧ RowG (R1 RdTx) 1 56 W wr.heap.size out k v news ∧ RdM W rb s r'
  turn : Turn [rb] wr W
/-- While the three numbers are read. -/
structure SuSt (w w6 : World) (rb : Nat) (s : ByteArray) (vi : Value) (rs : Nat → Rdr) (a b c : Value) (g : Nat) (W : World) : Prop where
  su : SuI w rb s (rs g) (if 4 ≤ g then a else .int .i64 0) (if 5 ≤ g then b else .int .i64 0) (if 6 ≤ g then c else .int .i64 0) vi (.slice none 0 0) W
  ag : Agree (w.heap.size + 3) w6.heap.size w6 W
  sz : w6.heap.size ≤ W.heap.size
set_option maxHeartbeats 4000000 in
set_option maxRecDepth 100000 in
set_option maxHeartbeats 4000000 in
theorem setup_any (rb : Nat) (s : ByteArray) (r : Rdr) (w : World) (h : RdM w rb s r) :
    Calls Try.prog 13 #[.agg #[.pointer (some ⟨rb, 0, none⟩)]] w (ReadG (SuV (setupL r).1) rb s (setupL r).2 w) := by
  obtain ⟨W1, hW1⟩ : ∃ W1, W1 = ((w.alloc (.cells #[.pointer (some ⟨rb, 0, none⟩)] 43)).alloc (.cells #[.int .i64 0, .int .i64 0, .int .i64 0, .slice none 0 0, .slice none 0 0] 27)).alloc (.cells #[.int .i64 0, .int .i64 0, .int .i64 0, .slice none 0 0, .slice none 0 0] 27) := ⟨_, rfl⟩
  have hb1 : Below w.heap.size w W1 := by rw [hW1]; exact ext_alloc (ext_alloc (ext_alloc (ext_refl _) _) _) _
  have hI1 : SuI w rb s r (.int .i64 0) (.int .i64 0) (.int .i64 0) (.slice none 0 0) (.slice none 0 0) W1 := by
    refine ⟨h.below hb1, ?_, ?_, ?_, Turn.of_below hb1⟩
    · rw [hW1]; exact ((Blk.new _ _ _).alloc _).alloc _
    · rw [hW1]; exact (Blk.new' _ _ _ (by simp)).alloc _
    · rw [hW1]; exact Blk.new' _ _ _ (by simp)
  have HLT := hid h.lt
  have HI1 := hid hI1
  have HN := hid (num_any rb s r 1 32 W1 hI1.rd (by omega) (by omega))
  have hk := numL_kept h.rdb 1 32
  have hle := numL_le r 1 32
  have HSUP : Hid (setupL r = let i := initL (numL r 1 32).1 [] (numL r 1 32).2; if i.2.err ≠ 0 then (⟨0, 0, 0, i.1, []⟩, i.2) else restL i.1 i.2) := hid rfl
  have hlenA := initL_len (numL r 1 32).1 [] (numL r 1 32).2
  generalize numL r 1 32 = q at *
  obtain ⟨n, r1⟩ := q
  dsimp only at *
  obtain ⟨tot, htot⟩ : ∃ tot, tot = initL n [] r1 := ⟨_, rfl⟩
  rw [← htot] at HSUP hlenA
  have HTOT := hid htot
  have HKP := hid hk
  have HLE := hid hle
  have HLA := hid hlenA
  have HW1 := hid hW1
  have HS1 := hid (show W1.heap.size = w.heap.size + 3 by rw [hW1]; simp)
  obtain ⟨i0, hi0, hz0, hz1, hz2⟩ := info_parts infoI64
  have HI0 := hid hi0
  have HZ0 := hid hz0
  have HZ1 := hid hz1
  have HZ2 := hid hz2
  have x0 := hI1.bx.cell 0 (v := .pointer (some ⟨rb, 0, none⟩)) rfl
  rw [hW1] at x0
  obtain ⟨Q, hQ⟩ : ∃ Q, Q = ReadG (SuV (setupL r).1) rb s (setupL r).2 w := ⟨_, rfl⟩
  rw [← hQ]
  have HQ := hid hQ
  clear h hk hle hlenA htot hW1 hb1 hI1 hi0 hz0 hz1 hz2 hQ
  go_enter Try.func13, Try.ntmps13
  go_wp2_with fail
  rw [← HW1.out]
  refine HN.out.mono ?_
  rintro e' w2 ⟨rfl, hr2, hT2⟩
  have HI2 := hid (HI1.out.call HLT.out HKP.out hT2 hr2)
  have HS2 := hid hT2.size
  clear hr2 hT2 x0
  go_wp2_with fail
  go_loopw [9, 4, 5, 11] (fun i _ _ _ wr => ∃ (k : Nat) (W' : World), W' = wr ∧ k ≤ n ∧ i = .int .i64 k ∧ InA w rb s tot n k W') (fun i _ _ _ _ => n - (intOf i).toNat)
  case atStart => exact ⟨0, _, rfl, Nat.zero_le _, rfl, ⟨[], [], r1, .slice none 0 0, rfl, HTOT.out.symm, rowG_nil (by have := HS2.out; have := HS1.out; omega), HI2.out⟩⟩
  case round =>
    clear HI2 HI1 HN HW1
    obtain ⟨k, wr, hwr, hk, rfl, ⟨out, news, r', v, hlen, hst, hrow, hI⟩⟩ := hrel
    subst hwr
    by_cases hlt : k < n
    · have g1 : decide ((k : Int) < (n : Int)) = true := by rw [decide_eq_true_iff]; omega
      have g2 : decide (k < n) = true := decide_eq_true hlt
      have g3 : IntKind.i64.wrap ((k : Int) + 1) = (k : Int) + 1 := IntWalk.i64_in _ (by have := HLE.out; omega)
      rw [show n - k = (n - (k + 1)) + 1 by omega, initL] at hst
      have HI := hid (rint_any rb s r'.at_ r'.err wr hI.rd.blk hI.rd.sz hI.rd.at_)
      rw [← hI.rd.eta] at HI
      have hkq := numR_kept hI.rd.rdb maxU
      have hzr : -9223372036854775808 ≤ zagZ (numR r' maxU).1 ∧ zagZ (numR r' maxU).1 ≤ 9223372036854775807 := zag_ok _ (by have := numR_le' r' maxU; unfold maxU at this ⊢; omega)
      generalize numR r' maxU = q at *
      have x1 := hI.bx.cell 0 (v := .pointer (some ⟨rb, 0, none⟩)) rfl
      have HST := hid hst
      have HROW := hid hrow
      have HSI := hid hI
      have HKQ := hid hkq
      have HZR := hid hzr
      have HLEN := hid hlen
      have HLTN := hid hlt
      clear hst hrow hI hkq hzr hlen hlt hk
      go_wp2_with fail
      refine HI.out.mono ?_
      rintro e' w5 ⟨rfl, hr5, hT5⟩
      have hI5 := HSI.out.call HLT.out HKQ.out hT5 hr5
      obtain ⟨A, c, hv⟩ := rowG_slice HROW.out
      have hpos : w.heap.size + 3 ≤ wr.heap.size := HROW.out.2.1
      obtain ⟨v', w9, g9, c10, hrun, hv', hrow9, hgr, hown⟩ := rowG_app (P := Try.prog) (t := 24) (by_ := 8) (w1 := w5) (zagZ q.1) [.int .i64 (zagZ q.1)] HROW.out HLEN.out rfl (by omega)
        (Agree.of_turn hT5 (by have := HLT.out; simp; omega)) hT5.size (fun w'' hw => ⟨_, rfl, rfl, HZR.out⟩) Try.underlying24 HI0.out HZ0.out HZ1.out HZ2.out rfl (by simp [Value.oneCell']) (by have := HLTN.out; have := HLE.out; unfold maxLen; omega) (by have := HLTN.out; have := HLE.out; omega)
      have hI9 := hI5.app HLT.out hgr hown
      have y3 := hI5.sb.cell 3 (v := v) rfl
      have s3 := hI9.sb.cell 3 (v := v) rfl
      have f3 := hI9.sb.free 3
      have HRUN := hid hrun
      have HFIN : Hid (InA w rb s tot n (k + 1) (w9.setCell ⟨w.heap.size + 2, 3, none⟩ v')) := hid ⟨⟨out ++ [zagZ q.1], _, q.2, v', by simp [HLEN.out], HST.out, rowG_agree hrow9 (Agree.set _ _ (by dsimp only; omega)) (by rw [size_setCell]; exact Nat.le_refl _), hI9.set3 HLT.out v'⟩⟩
      subst hv
      clear hr5 hT5 hI5 hpos hrun hrow9 hgr hown hI9 x1
      subst hv'
      go_wp2_with (refine wpList_append_run rfl (.tmp 18) (.tmp 20) 24 24 (.slice A k c) (.slice (some ⟨w5.heap.size, 0, none⟩) 1 1) (.slice (some ⟨g9, 0, none⟩) (k + 1) c10) rfl rfl rfl HRUN.out ?_)
      go_roundw
      case rel => exact ⟨k + 1, _, rfl, HLTN.out, by go_num, HFIN.out⟩
      case measure => have := HLTN.out; simp [intOf]; omega
    · obtain rfl : k = n := by omega
      have g1 : decide ((k : Int) < (k : Int)) = false := by rw [decide_eq_false_iff_not]; omega
      rw [Nat.sub_self, initL] at hst
      subst hst
      dsimp only at *
      have hinit := fun w'' hw => RdSl.of_G (rowG_end (R := R1 RdI) (l := out) (by have := HLE.out; omega) (by rw [hlen]; exact hrow) w'' hw)
      obtain ⟨A, c, hv⟩ := rowG_slice hrow
      have x1 := hI.bx.cell 0 (v := .pointer (some ⟨rb, 0, none⟩)) rfl
      have HSI := hid hI
      have HINIT := hid hinit
      have HLEN := hid hlen
      have HB3 := hid hrow.2.1
      clear hrow hI hinit hlen hk hlt
      by_cases he : r'.err = 0
      · have HBAD := hid (bad_any rb s r' wr HSI.out.rd false (by simpa using he))
        have HSE : Hid (setupL r = restL out r') := hid (by have := HSUP.out; rwa [if_neg (by omega)] at this)
        clear he
        have HNqa := fun (W : World) (h : RdM W rb s r') => num_any rb s r' 1 k W h (by omega) (by have := HLE.out; omega)
        have HNqb := fun (W : World) (r : Rdr) (h : RdM W rb s r) => num_any rb s r 0 1099511627776 W h (by omega) (by omega)
        have HNqc := fun (W : World) (r : Rdr) (h : RdM W rb s r) => num_any rb s r 1 1000 W h (by omega) (by omega)
        have ka := numL_kept HSI.out.rd.rdb 1 k
        have kb := fun (r : Rdr) (h : RdB r) => numL_kept h 0 1099511627776
        have kc := fun (r : Rdr) (h : RdB r) => numL_kept h 1 1000
        have hre : restL out r' = (⟨((numL r' 1 k).1 : Nat), ((numL (numL r' 1 k).2 0 1099511627776).1 : Nat), ((numL (numL (numL r' 1 k).2 0 1099511627776).2 1 1000).1 : Nat), out, (thsL (numL (numL (numL (numL r' 1 k).2 0 1099511627776).2 1 1000).2 0 6).1 [] (numL (numL (numL (numL r' 1 k).2 0 1099511627776).2 1 1000).2 0 6).2).1⟩, (thsL (numL (numL (numL (numL r' 1 k).2 0 1099511627776).2 1 1000).2 0 6).1 [] (numL (numL (numL (numL r' 1 k).2 0 1099511627776).2 1 1000).2 0 6).2).2) := by
          rw [← HLEN.out]; rfl
        rw [hre] at HSE
        clear hre
        have hka := ka.rdb HSI.out.rd.rdb
        generalize numL r' 1 k = qa at *
        have HNqb := fun W h => HNqb W qa.2 h
        have kb := kb qa.2 hka
        have hkb := kb.rdb hka
        generalize numL qa.2 0 1099511627776 = qb at *
        have HNqc := fun W h => HNqc W qb.2 h
        have kc := kc qb.2 hkb
        generalize numL qb.2 1 1000 = qc at *
        have HKqa := hid ka
        have HKqb := hid kb
        have HKqc := hid kc
        have hn1 := HNqa
        have hn2 := HNqb
        have hn3 := HNqc
        clear ka kb kc hka hkb HNqa HNqb HNqc
        have HNqa := hid hn1
        have HNqb := hid hn2
        have HNqc := hid hn3
        clear hn1 hn2 hn3
        go_wp2_with fail
        refine HBAD.out.mono ?_
        rintro e' w6 ⟨rfl, hb6⟩
        have HI6 := hid (HSI.out.below hb6)
        have HA6 := hid (Agree.of_below (lo := w.heap.size + 3) hb6)
        have HSZ6 := hid hb6.size
        clear hb6 x1
        subst hv
        go_wp2_with fail
        --R9
        apply wp_region_knownJ9 (fun qq => ([.agg #[.pointer (some ⟨rb, 0, none⟩)], .pointer (some ⟨w.heap.size + 2, 3, none⟩), .slice A k c, .int .i64 (k : Int), .int .i64 (qa.1 : Int), .agg #[.pointer (some ⟨rb, 0, none⟩)], .int .i64 (qb.1 : Int), .agg #[.pointer (some ⟨rb, 0, none⟩)], .int .i64 (qc.1 : Int), .pointer (some ⟨w.heap.size + 2, 0, none⟩), undef, .pointer (some ⟨w.heap.size + 2, 1, none⟩), undef, .pointer (some ⟨w.heap.size + 2, 2, none⟩), undef] : List Value).getD qq undef) (Stg [4, 6, 8, 10, 12, 14] (SuSt w w6 rb s (.slice A k c) (fun g => if g = 0 then r' else if g = 1 then qa.2 else if g = 2 then qb.2 else qc.2) (.int .i64 (qa.1 : Int)) (.int .i64 (qb.1 : Int)) (.int .i64 (qc.1 : Int))))
        focus (simp [putAll, dstOf, Act.put, List.getD]; rfl)
        case hm => kernel_rfl
        case hd => kernel_rfl
        case hb => kernel_rfl
        case hng => kernel_rfl
        case hsz => kernel_rfl
        case hext => exact fun l l' w h H => H.ext (n := 15) (by decide) h
        case h0 => exact Stg.start ⟨by simpa using HI6.out.below (ext_drew (ext_refl _)), Agree.of_below (ext_drew (ext_refl _)), (ext_drew (ext_refl w6)).size⟩
        case hstep =>
          refine ⟨?_, ?_, ?_, ?_, ?_, ?_, ?_, ?_, ?_, ?_, ?_, ?_, ?_, ?_, ?_, trivial⟩
          · refine ⟨(fun g b h => by cases h), fun l w' hl hdp hJ hg ρ h1 h2 h3 h4 h5 => ?_⟩
            have HJ := hid hJ
            obtain ⟨gg, -, hS, -⟩ := hJ
            have f1 : ρ (.tmp 1) = .pointer (some ⟨w.heap.size, 0, none⟩) := h5 1 (undone_far (by kernel_rfl))
            have c := hS.su.bx.cell 0 (v := .pointer (some ⟨rb, 0, none⟩)) rfl
            clear h4 h5 hg hdp
            unfold OpY
            go_simp
            first | exact ⟨rfl, HJ.out.put (i := 0) (by decide)⟩ | exact ⟨Or.inr rfl, HJ.out.put (i := 0) (by decide)⟩ | exact HJ.out.put (i := 0) (by decide)
          · refine ⟨(fun g b h => by cases h), fun l w' hl hdp hJ hg ρ h1 h2 h3 h4 h5 => ?_⟩
            have HJ := hid hJ
            obtain ⟨gg, -, hS, -⟩ := hJ
            have f3 : ρ (.tmp 3) = .pointer (some ⟨w.heap.size + 2, 0, none⟩) := h5 3 (undone_far (by kernel_rfl))
            clear h4 h5 hg hdp
            unfold OpY
            go_simp
            first | exact ⟨rfl, HJ.out.put (i := 1) (by decide)⟩ | exact ⟨Or.inr rfl, HJ.out.put (i := 1) (by decide)⟩ | exact HJ.out.put (i := 1) (by decide)
          · refine ⟨(fun g b h => by cases h), fun l w' hl hdp hJ hg ρ h1 h2 h3 h4 h5 => ?_⟩
            have HJ := hid hJ
            obtain ⟨gg, -, hS, -⟩ := hJ
            have f28 : ρ (.tmp 28) = .pointer (some ⟨w.heap.size + 2, 3, none⟩) := h4 1 28 (by kernel_rfl) (by kernel_rfl)
            have c := hS.su.sb.cell 3 (v := .slice A k c) rfl
            clear h4 h5 hg hdp
            unfold OpY
            go_simp
            first | exact ⟨rfl, HJ.out.put (i := 2) (by decide)⟩ | exact ⟨Or.inr rfl, HJ.out.put (i := 2) (by decide)⟩ | exact HJ.out.put (i := 2) (by decide)
          · refine ⟨(fun g b h => by cases h), fun l w' hl hdp hJ hg ρ h1 h2 h3 h4 h5 => ?_⟩
            have HJ := hid hJ
            obtain ⟨gg, -, hS, -⟩ := hJ
            have f29 : ρ (.tmp 29) = .slice A k c := h4 2 29 (by kernel_rfl) (by kernel_rfl)
            clear h4 h5 hg hdp
            unfold OpY
            go_simp
            first | exact ⟨rfl, HJ.out.put (i := 3) (by decide)⟩ | exact ⟨Or.inr rfl, HJ.out.put (i := 3) (by decide)⟩ | exact HJ.out.put (i := 3) (by decide)
          · refine ⟨(fun g b h => by cases h), fun l w' hl hdp hJ hg ρ h1 h2 h3 h4 h5 => ?_⟩
            have HJ := hid hJ
            obtain ⟨gg, -, hS, -⟩ := hJ
            have f27 : ρ (.tmp 27) = .agg #[.pointer (some ⟨rb, 0, none⟩)] := h4 0 27 (by kernel_rfl) (by kernel_rfl)
            have f30 : ρ (.tmp 30) = .int .i64 (k : Int) := h4 3 30 (by kernel_rfl) (by kernel_rfl)
            obtain ⟨hS', hN⟩ := HJ.out.at (i := 0) (by decide) hl (fun h => by cases h) (by decide)
            have HSS := hid hS'
            have HN := hid hN
            have HC := hid (HNqa.out w' (by simpa using hS'.su.rd))
            clear h4 h5 hg hdp hS hS' hN
            unfold OpY
            go_simp
            unfold OpR
            refine HC.out.mono ?_
            rintro e' w2 ⟨rfl, hr2, hT2⟩
            refine ⟨_, rfl, rfl, HN.out w2 ⟨by simpa using (show SuI w rb s r' (.int .i64 0) (.int .i64 0) (.int .i64 0) (.slice A k c) (.slice none 0 0) w' from by simpa using HSS.out.su).call HLT.out HKqa.out hT2 hr2, HSS.out.ag.trans ((Agree.of_turn hT2 (by have := HLT.out; simp; omega)).sub (Nat.le_refl _) HSS.out.sz), Nat.le_trans HSS.out.sz hT2.size⟩⟩
          · refine ⟨(fun g b h => by cases h), fun l w' hl hdp hJ hg ρ h1 h2 h3 h4 h5 => ?_⟩
            have HJ := hid hJ
            obtain ⟨gg, -, hS, -⟩ := hJ
            have f1 : ρ (.tmp 1) = .pointer (some ⟨w.heap.size, 0, none⟩) := h5 1 (undone_far (by kernel_rfl))
            have c := hS.su.bx.cell 0 (v := .pointer (some ⟨rb, 0, none⟩)) rfl
            clear h4 h5 hg hdp
            unfold OpY
            go_simp
            first | exact ⟨rfl, HJ.out.put (i := 5) (by decide)⟩ | exact ⟨Or.inr rfl, HJ.out.put (i := 5) (by decide)⟩ | exact HJ.out.put (i := 5) (by decide)
          · refine ⟨(fun g b h => by cases h), fun l w' hl hdp hJ hg ρ h1 h2 h3 h4 h5 => ?_⟩
            have HJ := hid hJ
            obtain ⟨gg, -, hS, -⟩ := hJ
            have f32 : ρ (.tmp 32) = .agg #[.pointer (some ⟨rb, 0, none⟩)] := h4 5 32 (by kernel_rfl) (by kernel_rfl)
            obtain ⟨hS', hN⟩ := HJ.out.at (i := 1) (by decide) hl (fun _ => hdp 4 (by kernel_rfl)) (by decide)
            have HSS := hid hS'
            have HN := hid hN
            have HC := hid (HNqb.out w' (by simpa using hS'.su.rd))
            clear h4 h5 hg hdp hS hS' hN
            unfold OpY
            go_simp
            unfold OpR
            refine HC.out.mono ?_
            rintro e' w2 ⟨rfl, hr2, hT2⟩
            refine ⟨_, rfl, rfl, HN.out w2 ⟨by simpa using (show SuI w rb s qa.2 (.int .i64 0) (.int .i64 0) (.int .i64 0) (.slice A k c) (.slice none 0 0) w' from by simpa using HSS.out.su).call HLT.out HKqb.out hT2 hr2, HSS.out.ag.trans ((Agree.of_turn hT2 (by have := HLT.out; simp; omega)).sub (Nat.le_refl _) HSS.out.sz), Nat.le_trans HSS.out.sz hT2.size⟩⟩
          · refine ⟨(fun g b h => by cases h), fun l w' hl hdp hJ hg ρ h1 h2 h3 h4 h5 => ?_⟩
            have HJ := hid hJ
            obtain ⟨gg, -, hS, -⟩ := hJ
            have f1 : ρ (.tmp 1) = .pointer (some ⟨w.heap.size, 0, none⟩) := h5 1 (undone_far (by kernel_rfl))
            have c := hS.su.bx.cell 0 (v := .pointer (some ⟨rb, 0, none⟩)) rfl
            clear h4 h5 hg hdp
            unfold OpY
            go_simp
            first | exact ⟨rfl, HJ.out.put (i := 7) (by decide)⟩ | exact ⟨Or.inr rfl, HJ.out.put (i := 7) (by decide)⟩ | exact HJ.out.put (i := 7) (by decide)
          · refine ⟨(fun g b h => by cases h), fun l w' hl hdp hJ hg ρ h1 h2 h3 h4 h5 => ?_⟩
            have HJ := hid hJ
            obtain ⟨gg, -, hS, -⟩ := hJ
            have f34 : ρ (.tmp 34) = .agg #[.pointer (some ⟨rb, 0, none⟩)] := h4 7 34 (by kernel_rfl) (by kernel_rfl)
            obtain ⟨hS', hN⟩ := HJ.out.at (i := 2) (by decide) hl (fun _ => hdp 6 (by kernel_rfl)) (by decide)
            have HSS := hid hS'
            have HN := hid hN
            have HC := hid (HNqc.out w' (by simpa using hS'.su.rd))
            clear h4 h5 hg hdp hS hS' hN
            unfold OpY
            go_simp
            unfold OpR
            refine HC.out.mono ?_
            rintro e' w2 ⟨rfl, hr2, hT2⟩
            refine ⟨_, rfl, rfl, HN.out w2 ⟨by simpa using (show SuI w rb s qb.2 (.int .i64 0) (.int .i64 0) (.int .i64 0) (.slice A k c) (.slice none 0 0) w' from by simpa using HSS.out.su).call HLT.out HKqc.out hT2 hr2, HSS.out.ag.trans ((Agree.of_turn hT2 (by have := HLT.out; simp; omega)).sub (Nat.le_refl _) HSS.out.sz), Nat.le_trans HSS.out.sz hT2.size⟩⟩
          · refine ⟨(fun g b h => by cases h), fun l w' hl hdp hJ hg ρ h1 h2 h3 h4 h5 => ?_⟩
            have HJ := hid hJ
            obtain ⟨gg, -, hS, -⟩ := hJ
            have f3 : ρ (.tmp 3) = .pointer (some ⟨w.heap.size + 2, 0, none⟩) := h5 3 (undone_far (by kernel_rfl))
            clear h4 h5 hg hdp
            unfold OpY
            go_simp
            first | exact ⟨rfl, HJ.out.put (i := 9) (by decide)⟩ | exact ⟨Or.inr rfl, HJ.out.put (i := 9) (by decide)⟩ | exact HJ.out.put (i := 9) (by decide)
          · refine ⟨(fun g b h => by cases h), fun l w' hl hdp hJ hg ρ h1 h2 h3 h4 h5 => ?_⟩
            have HJ := hid hJ
            obtain ⟨gg, -, hS, -⟩ := hJ
            have f36 : ρ (.tmp 36) = .pointer (some ⟨w.heap.size + 2, 0, none⟩) := h4 9 36 (by kernel_rfl) (by kernel_rfl)
            have f31 : ρ (.tmp 31) = .int .i64 (qa.1 : Int) := h4 4 31 (by kernel_rfl) (by kernel_rfl)
            obtain ⟨hS', hN⟩ := HJ.out.at (i := 3) (by decide) hl (fun _ => hdp 8 (by kernel_rfl)) (by decide)
            have hSu : SuI w rb s qc.2 (.int .i64 0) (.int .i64 0) (.int .i64 0) (.slice A k c) (.slice none 0 0) w' := by simpa using hS'.su
            have c := hSu.sb.cell 0 (v := .int .i64 0) rfl
            have z := hSu.sb.free 0
            have HSS := hid hS'
            have HSU := hid hSu
            have HN := hid hN
            clear h4 h5 hg hdp hS hS' hN hSu
            unfold OpY
            go_simp
            first | exact ⟨Or.inl rfl, HN.out _ ⟨by simpa using HSU.out.set0 HLT.out (.int .i64 (qa.1 : Int)), HSS.out.ag.trans (Agree.set _ _ (by dsimp only; omega)), by rw [size_setCell]; exact HSS.out.sz⟩⟩ | exact ⟨rfl, HN.out _ ⟨by simpa using HSU.out.set0 HLT.out (.int .i64 (qa.1 : Int)), HSS.out.ag.trans (Agree.set _ _ (by dsimp only; omega)), by rw [size_setCell]; exact HSS.out.sz⟩⟩ | exact ⟨trivial, HN.out _ ⟨by simpa using HSU.out.set0 HLT.out (.int .i64 (qa.1 : Int)), HSS.out.ag.trans (Agree.set _ _ (by dsimp only; omega)), by rw [size_setCell]; exact HSS.out.sz⟩⟩ | exact HN.out _ ⟨by simpa using HSU.out.set0 HLT.out (.int .i64 (qa.1 : Int)), HSS.out.ag.trans (Agree.set _ _ (by dsimp only; omega)), by rw [size_setCell]; exact HSS.out.sz⟩
          · refine ⟨(fun g b h => by cases h), fun l w' hl hdp hJ hg ρ h1 h2 h3 h4 h5 => ?_⟩
            have HJ := hid hJ
            obtain ⟨gg, -, hS, -⟩ := hJ
            have f3 : ρ (.tmp 3) = .pointer (some ⟨w.heap.size + 2, 0, none⟩) := h5 3 (undone_far (by kernel_rfl))
            clear h4 h5 hg hdp
            unfold OpY
            go_simp
            first | exact ⟨rfl, HJ.out.put (i := 11) (by decide)⟩ | exact ⟨Or.inr rfl, HJ.out.put (i := 11) (by decide)⟩ | exact HJ.out.put (i := 11) (by decide)
          · refine ⟨(fun g b h => by cases h), fun l w' hl hdp hJ hg ρ h1 h2 h3 h4 h5 => ?_⟩
            have HJ := hid hJ
            obtain ⟨gg, -, hS, -⟩ := hJ
            have f37 : ρ (.tmp 37) = .pointer (some ⟨w.heap.size + 2, 1, none⟩) := h4 11 37 (by kernel_rfl) (by kernel_rfl)
            have f33 : ρ (.tmp 33) = .int .i64 (qb.1 : Int) := h4 6 33 (by kernel_rfl) (by kernel_rfl)
            obtain ⟨hS', hN⟩ := HJ.out.at (i := 4) (by decide) hl (fun _ => hdp 10 (by kernel_rfl)) (by decide)
            have hSu : SuI w rb s qc.2 (.int .i64 (qa.1 : Int)) (.int .i64 0) (.int .i64 0) (.slice A k c) (.slice none 0 0) w' := by simpa using hS'.su
            have c := hSu.sb.cell 1 (v := .int .i64 0) rfl
            have z := hSu.sb.free 1
            have HSS := hid hS'
            have HSU := hid hSu
            have HN := hid hN
            clear h4 h5 hg hdp hS hS' hN hSu
            unfold OpY
            go_simp
            first | exact ⟨Or.inl rfl, HN.out _ ⟨by simpa using HSU.out.set1 HLT.out (.int .i64 (qb.1 : Int)), HSS.out.ag.trans (Agree.set _ _ (by dsimp only; omega)), by rw [size_setCell]; exact HSS.out.sz⟩⟩ | exact ⟨rfl, HN.out _ ⟨by simpa using HSU.out.set1 HLT.out (.int .i64 (qb.1 : Int)), HSS.out.ag.trans (Agree.set _ _ (by dsimp only; omega)), by rw [size_setCell]; exact HSS.out.sz⟩⟩ | exact ⟨trivial, HN.out _ ⟨by simpa using HSU.out.set1 HLT.out (.int .i64 (qb.1 : Int)), HSS.out.ag.trans (Agree.set _ _ (by dsimp only; omega)), by rw [size_setCell]; exact HSS.out.sz⟩⟩ | exact HN.out _ ⟨by simpa using HSU.out.set1 HLT.out (.int .i64 (qb.1 : Int)), HSS.out.ag.trans (Agree.set _ _ (by dsimp only; omega)), by rw [size_setCell]; exact HSS.out.sz⟩
          · refine ⟨(fun g b h => by cases h), fun l w' hl hdp hJ hg ρ h1 h2 h3 h4 h5 => ?_⟩
            have HJ := hid hJ
            obtain ⟨gg, -, hS, -⟩ := hJ
            have f3 : ρ (.tmp 3) = .pointer (some ⟨w.heap.size + 2, 0, none⟩) := h5 3 (undone_far (by kernel_rfl))
            clear h4 h5 hg hdp
            unfold OpY
            go_simp
            first | exact ⟨rfl, HJ.out.put (i := 13) (by decide)⟩ | exact ⟨Or.inr rfl, HJ.out.put (i := 13) (by decide)⟩ | exact HJ.out.put (i := 13) (by decide)
          · refine ⟨(fun g b h => by cases h), fun l w' hl hdp hJ hg ρ h1 h2 h3 h4 h5 => ?_⟩
            have HJ := hid hJ
            obtain ⟨gg, -, hS, -⟩ := hJ
            have f38 : ρ (.tmp 38) = .pointer (some ⟨w.heap.size + 2, 2, none⟩) := h4 13 38 (by kernel_rfl) (by kernel_rfl)
            have f35 : ρ (.tmp 35) = .int .i64 (qc.1 : Int) := h4 8 35 (by kernel_rfl) (by kernel_rfl)
            obtain ⟨hS', hN⟩ := HJ.out.at (i := 5) (by decide) hl (fun _ => hdp 12 (by kernel_rfl)) (by decide)
            have hSu : SuI w rb s qc.2 (.int .i64 (qa.1 : Int)) (.int .i64 (qb.1 : Int)) (.int .i64 0) (.slice A k c) (.slice none 0 0) w' := by simpa using hS'.su
            have c := hSu.sb.cell 2 (v := .int .i64 0) rfl
            have z := hSu.sb.free 2
            have HSS := hid hS'
            have HSU := hid hSu
            have HN := hid hN
            clear h4 h5 hg hdp hS hS' hN hSu
            unfold OpY
            go_simp
            first | exact ⟨Or.inl rfl, HN.out _ ⟨by simpa using HSU.out.set2 HLT.out (.int .i64 (qc.1 : Int)), HSS.out.ag.trans (Agree.set _ _ (by dsimp only; omega)), by rw [size_setCell]; exact HSS.out.sz⟩⟩ | exact ⟨rfl, HN.out _ ⟨by simpa using HSU.out.set2 HLT.out (.int .i64 (qc.1 : Int)), HSS.out.ag.trans (Agree.set _ _ (by dsimp only; omega)), by rw [size_setCell]; exact HSS.out.sz⟩⟩ | exact ⟨trivial, HN.out _ ⟨by simpa using HSU.out.set2 HLT.out (.int .i64 (qc.1 : Int)), HSS.out.ag.trans (Agree.set _ _ (by dsimp only; omega)), by rw [size_setCell]; exact HSS.out.sz⟩⟩ | exact HN.out _ ⟨by simpa using HSU.out.set2 HLT.out (.int .i64 (qc.1 : Int)), HSS.out.ag.trans (Agree.set _ _ (by dsimp only; omega)), by rw [size_setCell]; exact HSS.out.sz⟩
        case hdone =>
          intro w7 hJ
          have hS := hJ.done
          have HI7 := hid (show SuI w rb s qc.2 (.int .i64 (qa.1 : Int)) (.int .i64 (qb.1 : Int)) (.int .i64 (qc.1 : Int)) (.slice A k c) (.slice none 0 0) w7 from by simpa using hS.su)
          have HA7 := hid hS.ag
          have HSZ7 := hid hS.sz
          clear hJ hS
        --R9E
          have hnd := num_any rb s qc.2 0 6 w7 HI7.out.rd (by omega) (by omega)
          have hkd := numL_kept HI7.out.rd.rdb 0 6
          have hld := numL_le qc.2 0 6
          generalize numL qc.2 0 6 = qd at *
          obtain ⟨m, rd⟩ := qd
          dsimp only at *
          obtain ⟨totC, htotC⟩ : ∃ totC, totC = thsL m [] rd := ⟨_, rfl⟩
          rw [← htotC] at HSE
          have HTC := hid htotC
          have HND := hid hnd
          have HKD := hid hkd
          have HLD := hid hld
          have x7 := HI7.out.bx.cell 0 (v := .pointer (some ⟨rb, 0, none⟩)) rfl
          clear hnd hkd hld htotC
          go_wp2_with fail
          refine HND.out.mono ?_
          rintro e' w8 ⟨rfl, hr8, hT8⟩
          have HI8 := hid (HI7.out.call HLT.out HKD.out hT8 hr8)
          have HA8 : Hid (Agree (w.heap.size + 3) w6.heap.size w6 w8 ∧ w6.heap.size ≤ w8.heap.size) := hid ⟨HA7.out.trans ((Agree.of_turn hT8 (by have := HLT.out; simp; omega)).sub (Nat.le_refl _) HSZ7.out), Nat.le_trans HSZ7.out hT8.size⟩
          have HB8 : Hid (w.heap.size + 3 ≤ w6.heap.size) := hid (by have := HB3.out; have := HSZ6.out; omega)
          clear hr8 hT8 x7
          go_wp2_with fail
          go_loopw [41, 6] (fun i _ wr => ∃ (k2 : Nat) (W' : World), W' = wr ∧ k2 ≤ m ∧ i = .int .i64 k2 ∧ InC w w6 rb s (.int .i64 (qa.1 : Int)) (.int .i64 (qb.1 : Int)) (.int .i64 (qc.1 : Int)) (.slice A k c) totC m k2 W') (fun i _ _ => m - (intOf i).toNat)
          case atStart => exact ⟨0, _, rfl, Nat.zero_le _, rfl, ⟨⟨[], [], rd, .slice none 0 0, rfl, HTC.out.symm, rowG_nil HA8.out.2, HI8.out⟩, HA8.out.1, HA8.out.2⟩⟩
          case round =>
            clear HI8 HA8 HI7 HA7 HSZ7 HND HKD HI6 HNqa HNqb HNqc HKqa HKqb HKqc HBAD
            obtain ⟨k2, wr2, hwr, hk2, rfl, ⟨⟨out2, news2, r2, v2, hlen2, hst2, hrow2, hI2⟩, hag2, hsz2⟩⟩ := hrel
            subst hwr
            by_cases hlt2 : k2 < m
            · have g1 : decide ((k2 : Int) < (m : Int)) = true := by rw [decide_eq_true_iff]; omega
              have g2 : decide (k2 < m) = true := decide_eq_true hlt2
              have g3 : IntKind.i64.wrap ((k2 : Int) + 1) = (k2 : Int) + 1 := IntWalk.i64_in _ (by have := HLD.out; omega)
              rw [show m - k2 = (m - (k2 + 1)) + 1 by omega, thsL] at hst2
              have HNE := hid (num_any rb s r2 0 6 wr2 hI2.rd (by omega) (by omega))
              have hke := numL_kept hI2.rd.rdb 0 6
              have hle6 := numL_le r2 0 6
              generalize numL r2 0 6 = qe at *
              obtain ⟨m2, re⟩ := qe
              dsimp only at *
              obtain ⟨totD, htotD⟩ : ∃ totD, totD = txsL m2 [] re := ⟨_, rfl⟩
              rw [← htotD] at hst2
              have HTD := hid htotD
              have HST2 := hid hst2
              have HROW2 := hid hrow2
              have HI2 := hid hI2
              have HKE := hid hke
              have HLE6 := hid hle6
              have HLEN2 := hid hlen2
              have HLTN2 := hid hlt2
              have HAG2 := hid hag2
              have HSZ2 := hid hsz2
              have x8 := hI2.bx.cell 0 (v := .pointer (some ⟨rb, 0, none⟩)) rfl
              clear htotD hst2 hrow2 hI2 hke hle6 hlen2 hlt2 hag2 hsz2 hk2
              go_wp2_with fail
              refine HNE.out.mono ?_
              rintro e' w9 ⟨rfl, hr9, hT9⟩
              have HRD9 := hid (HI2.out.rd.kept HKE.out hr9)
              have HT9 := hid hT9
              clear hr9 hT9 x8
              go_wp2_with fail
              go_loopw [45, 6] (fun i x W => ∃ (j : Nat) (x' : Value) (W' : World), x' = x ∧ W' = W ∧ j ≤ m2 ∧ i = .int .i64 j ∧ InD wr2 rb s totD m2 j x' W') (fun i _ _ => m2 - (intOf i).toNat)
              case atStart => exact ⟨0, _, _, rfl, rfl, Nat.zero_le _, rfl, ⟨[], [], re, rfl, HTD.out.symm, rowG_nil HT9.out.size, HRD9.out⟩, HT9.out⟩
              case round =>
                clear HRD9 HT9 HNE HKE
                obtain ⟨j, v3, W3, hv3, hW3, hj, rfl, ⟨⟨out3, news3, r3, hlen3, hst3, hrow3, hrd3⟩, hT3⟩⟩ := hrel
                subst hv3
                subst hW3
                by_cases hlt3 : j < m2
                · have g1 : decide ((j : Int) < (m2 : Int)) = true := by rw [decide_eq_true_iff]; omega
                  have g2 : decide (j < m2) = true := decide_eq_true hlt3
                  have g3 : IntKind.i64.wrap ((j : Int) + 1) = (j : Int) + 1 := IntWalk.i64_in _ (by have := HLE6.out; omega)
                  rw [show m2 - j = (m2 - (j + 1)) + 1 by omega, txsL] at hst3
                  have HBK := hid (show Calls Try.prog 32 #[.agg #[.pointer (some ⟨rb, 0, none⟩)], .int .i64 1] W3 (ReadG (fun w'' v => RdTx w'' (blockL 6 r3).1 v) rb s (blockL 6 r3).2 W3) from block_any 6 rb s r3 W3 hrd3 (by omega))
                  have hkb := (blockL_ok 6).kept r3 hrd3.rdb
                  generalize blockL 6 r3 = qf at *
                  have hbx3 := hT3.blk (by have := HLT.out; simp; omega) HI2.out.bx
                  have x9 := hbx3.cell 0 (v := .pointer (some ⟨rb, 0, none⟩)) rfl
                  have HST3 := hid hst3
                  have HROW3 := hid hrow3
                  have HRD3 := hid hrd3
                  have HT3 := hid hT3
                  have HKB := hid hkb
                  have HLEN3 := hid hlen3
                  have HLTN3 := hid hlt3
                  obtain ⟨A3, c3, hv3⟩ := rowG_slice hrow3
                  clear hst3 hrow3 hrd3 hT3 hkb hlen3 hlt3 hbx3 hj
                  subst hv3
                  go_wp2_with fail
                  refine HBK.out.mono ?_
                  rintro e' w10 ⟨vb, rfl, hr10, hT10, hvb⟩
                  obtain ⟨ty0, hy0, hyz0, hyz1, hyz2⟩ := info_parts infoTx
                  have hrbw : rb < wr2.heap.size := HI2.out.rd.lt
                  obtain ⟨pb, cb, rfl, -, -⟩ := hvb w10 (Agree.refl _ _ _)
                  obtain ⟨v', w11, g11, c11, hrun, hv', hrow11, hgr, hown⟩ := rowG_app (P := Try.prog) (t := 55) (by_ := 24) (w1 := w10) qf.1 [.slice pb qf.1.length cb] HROW3.out HLEN3.out rfl (by omega)
                    (Agree.of_turn hT10 (by simp; omega)) hT10.size (fun w'' hw => ⟨_, rfl, hvb w'' hw⟩) Try.underlying55 hy0 hyz0 hyz1 hyz2 rfl (by simp [Value.oneCell']) (by have := HLTN3.out; have := HLE6.out; unfold maxLen; omega) (by have := HLTN3.out; have := HLE6.out; omega)
                  have HRUN := hid hrun
                  have hsz10 := hT10.size
                  have HFIN : Hid (InD wr2 rb s totD m2 (j + 1) v' w11) := hid ⟨⟨out3 ++ [qf.1], _, qf.2, by simp [HLEN3.out], HST3.out, hrow11, by
                    have hm := HRD3.out.kept HKB.out hr10
                    exact ⟨(grown_at hgr hm.lt (fun e => by have := hown rb e; omega)).trans hm.blk, hm.s_, hm.at_, hm.sz⟩⟩, ((HT3.out.trans hT10).trans (Turn.of_below (ext_alloc (ext_refl w10) _))).grown hgr hown⟩
                  clear hr10 hT10 hvb hrun hrow11 hgr hown hy0 hyz0 hyz1 hyz2 hrbw hsz10 x9
                  subst hv'
                  go_wp2_with (refine wpList_append_run rfl (.tmp 47) (.tmp 50) 55 55 (.slice A3 j c3) (.slice (some ⟨w10.heap.size, 0, none⟩) 1 1) (.slice (some ⟨g11, 0, none⟩) (j + 1) c11) rfl rfl rfl HRUN.out ?_)
                  go_roundw
                  case rel => exact ⟨j + 1, _, _, rfl, rfl, HLTN3.out, by go_num, HFIN.out⟩
                  case measure => have := HLTN3.out; simp [intOf]; omega
                · obtain rfl : j = m2 := by omega
                  have g1 : decide ((j : Int) < (j : Int)) = false := by rw [decide_eq_false_iff_not]; omega
                  rw [Nat.sub_self, txsL] at hst3
                  subst hst3
                  dsimp only at *
                  obtain ⟨A3, c3, hv3⟩ := rowG_slice hrow3
                  subst hv3
                  obtain ⟨A2, c2, hv2⟩ := rowG_slice HROW2.out
                  subst hv2
                  have hrbw : rb < wr2.heap.size := HI2.out.rd.lt
                  have hend := fun w'' hw => RdSl.of_G (rowG_end (R := R1 RdTx) (l := out3) (by have := HLE6.out; omega) (by rw [hlen3]; exact hrow3) w'' hw)
                  obtain ⟨th0, hy0, hyz0, hyz1, hyz2⟩ := info_parts infoTh
                  have hl3 : out3.length = j := hlen3
                  obtain ⟨v', w11, g11, c11, hrun, hv', hrow11, hgr, hown⟩ := rowG_app (P := Try.prog) (t := 25) (by_ := 24) (w1 := W3) out3 [.slice A3 j c3] HROW2.out HLEN2.out rfl (by omega)
                    (Agree.of_turn hT3 (by have := HLT.out; have := HB8.out; simp; omega)) hT3.size (fun w'' hw => ⟨_, rfl, hend w'' hw⟩) Try.underlying25 hy0 hyz0 hyz1 hyz2 rfl (by simp [Value.oneCell']) (by have := HLTN2.out; have := HLD.out; unfold maxLen; omega) (by have := HLTN2.out; have := HLD.out; omega)
                  have hI3 : SuI w rb s r3 (.int .i64 (qa.1 : Int)) (.int .i64 (qb.1 : Int)) (.int .i64 (qc.1 : Int)) (.slice A k c) (.slice A2 k2 c2) W3 := ⟨hrd3, hT3.blk (by have := HLT.out; simp; omega) HI2.out.bx, hT3.blk (by have := HLT.out; simp; omega) HI2.out.o, hT3.blk (by have := HLT.out; simp; omega) HI2.out.sb, HI2.out.turn.trans hT3⟩
                  have hI11 := hI3.app HLT.out hgr (fun g hg => by have := hown g hg; have := HB8.out; omega)
                  have y4 := hI3.sb.cell 4 (v := .slice A2 k2 c2) rfl
                  have s4 := hI11.sb.cell 4 (v := .slice A2 k2 c2) rfl
                  have f4 := hI11.sb.free 4
                  have HRUN := hid hrun
                  have hag3 : Agree (w.heap.size + 3) w6.heap.size w6 w11 := fun b h1 h2 => (grown_at hgr (by have := HSZ2.out; have := hT3.size; omega) (fun e => by have := hown b e; omega)).trans ((hT3.block b (by have := HSZ2.out; omega) (by have := HLT.out; simp; omega)).trans (HAG2.out b h1 h2))
                  have HFIN : Hid (InC w w6 rb s (.int .i64 (qa.1 : Int)) (.int .i64 (qb.1 : Int)) (.int .i64 (qc.1 : Int)) (.slice A k c) totC m (k2 + 1) (w11.setCell ⟨w.heap.size + 2, 4, none⟩ v')) := hid ⟨⟨out2 ++ [out3], _, r3, v', by simp [HLEN2.out], HST2.out, rowG_agree hrow11 (Agree.set _ _ (by have := HB8.out; dsimp only; omega)) (by rw [size_setCell]; exact Nat.le_refl _), hI11.set4 HLT.out v'⟩, hag3.trans (Agree.set _ _ (by dsimp only; omega)), by rw [size_setCell]; exact Nat.le_trans HSZ2.out (Nat.le_trans hT3.size (by have := hgr.size; rw [World.size_alloc] at this; omega))⟩
                  clear hrow3 hrd3 hT3 hrun hrow11 hgr hown hy0 hyz0 hyz1 hyz2 hrbw hend hl3 hI3 hI11 hlt3 hj hag3
                  subst hv'
                  go_wp2_with (refine wpList_append_run rfl (.tmp 54) (.tmp 56) 25 25 (.slice A2 k2 c2) (.slice (some ⟨W3.heap.size, 0, none⟩) 1 1) (.slice (some ⟨g11, 0, none⟩) (k2 + 1) c11) rfl rfl rfl HRUN.out ?_)
                  go_roundw
                  case rel => exact ⟨k2 + 1, _, rfl, HLTN2.out, by go_num, HFIN.out⟩
                  case measure => have := HLTN2.out; simp [intOf]; omega
            · obtain rfl : k2 = m := by omega
              have g1 : decide ((k2 : Int) < (k2 : Int)) = false := by rw [decide_eq_false_iff_not]; omega
              rw [Nat.sub_self, thsL] at hst2
              subst hst2
              dsimp only at *
              obtain ⟨A2, c2, hv2⟩ := rowG_slice hrow2
              subst hv2
              have hend := fun w'' hw => RdSl.of_G (rowG_end (R := R1 RdTh) (l := out2) (by have := HLD.out; omega) (by rw [hlen2]; exact hrow2) w'' hw)
              have b0 := hI2.sb.cell 0 (v := .int .i64 (qa.1 : Int)) rfl
              have b1 := hI2.sb.cell 1 (v := .int .i64 (qb.1 : Int)) rfl
              have b2 := hI2.sb.cell 2 (v := .int .i64 (qc.1 : Int)) rfl
              have b3 := hI2.sb.cell 3 (v := .slice A k c) rfl
              have b4 := hI2.sb.cell 4 (v := .slice A2 k2 c2) rfl
              have c0 := hI2.o.cell 0 (v := .int .i64 0) rfl
              have c1 := hI2.o.cell 1 (v := .int .i64 0) rfl
              have c2' := hI2.o.cell 2 (v := .int .i64 0) rfl
              have c3 := hI2.o.cell 3 (v := .slice none 0 0) rfl
              have c4 := hI2.o.cell 4 (v := .slice none 0 0) rfl
              have z0 := hI2.o.free 0
              have z1 := hI2.o.free 1
              have z2 := hI2.o.free 2
              have z3 := hI2.o.free 3
              have z4 := hI2.o.free 4
              have HI2 := hid hI2
              have HEND := hid hend
              have HAG2 := hid (And.intro hag2 hsz2)
              clear hI2 hend hrow2 hag2 hsz2 hlen2 hlt2
              go_wp2_with fail
              have hF := ((((HI2.out.o.set 0 (.int .i64 (qa.1 : Int))).set 1 (.int .i64 (qb.1 : Int))).set 2 (.int .i64 (qc.1 : Int))).set 3 (.slice A k c)).set 4 (.slice A2 k2 c2)
              have t0 := hF.cell 0 (v := .int .i64 (qa.1 : Int)) rfl
              have t1 := hF.cell 1 (v := .int .i64 (qb.1 : Int)) rfl
              have t2 := hF.cell 2 (v := .int .i64 (qc.1 : Int)) rfl
              have t3 := hF.cell 3 (v := .slice A k c) rfl
              have t4 := hF.cell 4 (v := .slice A2 k2 c2) rfl
              refine bodyPost_ret (v := .agg #[.int .i64 (qa.1 : Int), .int .i64 (qb.1 : Int), .int .i64 (qc.1 : Int), .slice A k c, .slice A2 k2 c2]) (by simp [results, Try.results13, go_sem, t0, t1, t2, t3, t4]) rfl ?_
              rw [HQ.out, HSE.out]
              exact su_out (x := ⟨(qa.1 : Nat), (qb.1 : Nat), (qc.1 : Nat), out, out2⟩) HI2.out HLT.out (fun w'' hw => HINIT.out w'' (HA6.out.trans ((HAG2.out.1.trans (hw.sub (Nat.le_refl _) HAG2.out.2)).sub (Nat.le_refl _) HSZ6.out))) (fun w'' hw => HEND.out w'' (hw.sub (by have := HB8.out; omega) (Nat.le_refl _)))
      · have HBAD := hid (bad_any rb s r' wr HSI.out.rd true (by simpa using he))
        have HSE : Hid (setupL r = (⟨0, 0, 0, out, []⟩, r')) := hid (by have := HSUP.out; rwa [if_pos he] at this)
        clear he
        go_wp2_with fail
        refine HBAD.out.mono ?_
        rintro e' w6 ⟨rfl, hb6⟩
        have hI6 := HSI.out.below hb6
        have HA6 := hid (Agree.of_below (lo := w.heap.size + 3) hb6)
        have b0 := hI6.sb.cell 0 (v := .int .i64 0) rfl
        have b1 := hI6.sb.cell 1 (v := .int .i64 0) rfl
        have b2 := hI6.sb.cell 2 (v := .int .i64 0) rfl
        have b3 := hI6.sb.cell 3 (v := v) rfl
        have b4 := hI6.sb.cell 4 (v := .slice none 0 0) rfl
        have c0 := hI6.o.cell 0 (v := .int .i64 0) rfl
        have c1 := hI6.o.cell 1 (v := .int .i64 0) rfl
        have c2 := hI6.o.cell 2 (v := .int .i64 0) rfl
        have c3 := hI6.o.cell 3 (v := .slice none 0 0) rfl
        have c4 := hI6.o.cell 4 (v := .slice none 0 0) rfl
        have z0 := hI6.o.free 0
        have z1 := hI6.o.free 1
        have z2 := hI6.o.free 2
        have z3 := hI6.o.free 3
        have z4 := hI6.o.free 4
        have HI6 := hid hI6
        have HSZ6 := hid hb6.size
        clear hI6 hb6 x1
        subst hv
        go_wp2_with fail
        have hF := ((((HI6.out.o.set 0 (.int .i64 0)).set 1 (.int .i64 0)).set 2 (.int .i64 0)).set 3 (.slice A k c)).set 4 (.slice none 0 0)
        have t0 := hF.cell 0 (v := .int .i64 0) rfl
        have t1 := hF.cell 1 (v := .int .i64 0) rfl
        have t2 := hF.cell 2 (v := .int .i64 0) rfl
        have t3 := hF.cell 3 (v := .slice A k c) rfl
        have t4 := hF.cell 4 (v := .slice none 0 0) rfl
        refine bodyPost_ret (v := .agg #[.int .i64 0, .int .i64 0, .int .i64 0, .slice A k c, .slice none 0 0]) (by simp [results, Try.results13, go_sem, t0, t1, t2, t3, t4]) rfl ?_
        rw [HQ.out, HSE.out]
        exact su_out (x := ⟨0, 0, 0, out, []⟩) HI6.out HLT.out (fun w'' hw => HINIT.out w'' (HA6.out.trans (hw.sub (Nat.le_refl _) HSZ6.out))) (fun w'' _ => rdThs_nil w'')
end Go.Proofs.Ytaklfjjkeebheaa
