/-
  Walks: event.Parse, its loop.
-/
import Derived.Test.YtlbpollckiidlaaDoorEvW4
namespace Go.Proofs.YtlbpollckiidlaaDoor
set_option linter.unusedVariables false
set_option linter.unusedSimpArgs false
open Go Go.RowKit
set_option maxRecDepth 100000 in
set_option maxHeartbeats 4000000 in
theorem put_why' (b q : Nat) (n : Int) (cs : Array Value) (t : TypeId) (w : World) (hb : Blk w b cs t) (hs : 6 < cs.size) (hne : q ≠ b) (hq : w.cell? ⟨q, 0, none⟩ = some (.int .i64 n)) :
    Calls Tryd.prog 110 #[.pointer (some ⟨b, 0, none⟩), .slice (some ⟨q, 0, none⟩) 1 1] w fun e w' => e = .returned (.int .i64 (n % 256)) ∧ Blk w' b (cs.setIfInBounds 6 (.int .u8 (n % 256))) t ∧ Turn [b] w w' := by
  have HB := hid (hb.set 6 (.int .u8 (n % 256)))
  have hc : w.cell? ⟨b, 6, none⟩ = some cs[6] := hb.cell 6 (by simp [hs])
  have hf : w.frozen? ⟨b, 6, none⟩ = false := hb.free 6
  have hc2 : (w.setCell ⟨b, 6, none⟩ (.int .u8 (n % 256))).cell? ⟨b, 6, none⟩ = some (.int .u8 (n % 256)) := (hb.set 6 (.int .u8 (n % 256))).cell 6 (by simp [hs])
  have hw : IntKind.u8.wrap n = n % 256 := by simp [IntKind.wrap, IntKind.bits, IntKind.signed]
  have h0 : 0 ≤ n % 256 := by omega
  have h1 : n % 256 ≤ 255 := by omega
  clear hb
  go_enter Tryd.func110, Tryd.ntmps110
  go_wp2_with fail
  refine wp_loop_rounds 2 ?_; rw [rounds_succ]
  go_wp2_with fail
  rw [rounds_succ]
  go_wp2_with fail
  go_ret
  exact ⟨rfl, HB.out, (Turn.refl _ _).setCell (Or.inl (by simp)) _⟩
theorem foldPut_step {w : World} {b m : Nat} {t : TypeId} {e0 : Ev} {fs : List FuncId} {ns : List Int} {f : FuncId} {n : Int} (hm : m < fs.length) (hf : fs[m] = f) (hl : ns.length = m) (h : Blk w b (evC (putF (foldPut e0 (fs.take m) ns) f n)) t) : Blk w b (evC (foldPut e0 (fs.take (m + 1)) (ns ++ [n]))) t := by
  rw [List.take_succ_eq_append_getElem hm, hf, foldPut_snoc _ _ _ _ _ (by rw [List.length_take, hl]; omega)]
  exact h
theorem putF_ok {e : Ev} {f : FuncId} {n : Int} (he : EvOk e) (hn : -9223372036854775808 ≤ n ∧ n ≤ 9223372036854775807) : EvOk (putF e f n) := by
  obtain ⟨h1, h2, h3, h4, h5, h6, h7⟩ := he
  unfold putF
  split
  · exact ⟨h1, h2, hn, h4, h5, h6, h7⟩
  split
  · exact ⟨h1, h2, h3, hn, h5, h6, h7⟩
  split
  · exact ⟨h1, h2, h3, h4, hn, h6, h7⟩
  split
  · exact ⟨h1, h2, h3, h4, h5, hn, h7⟩
  · exact ⟨h1, h2, h3, h4, h5, h6, by dsimp only; omega⟩
theorem foldPut_step_ok {m : Nat} {e0 : Ev} {fs : List FuncId} {ns : List Int} {f : FuncId} {n : Int} (hm : m < fs.length) (hf : fs[m] = f) (hl : ns.length = m) (h : EvOk (foldPut e0 (fs.take m) ns)) (hn : -9223372036854775808 ≤ n ∧ n ≤ 9223372036854775807) : EvOk (foldPut e0 (fs.take (m + 1)) (ns ++ [n])) := by
  rw [List.take_succ_eq_append_getElem hm, hf, foldPut_snoc _ _ _ _ _ (by rw [List.length_take, hl]; omega)]
  exact putF_ok h hn
theorem nums_snoc {rest : List (List UInt8)} {ns : List Int} {m : Nat} {n : Int} (h : ns.length = m ∧ ∀ j (h : j < rest.length) (h' : j < ns.length), Lib.atoiAll rest[j] = .ok ns[j]) (hm : m < rest.length) (hn : Lib.atoiAll rest[m] = .ok n) : ∀ j (h : j < rest.length) (h' : j < (ns ++ [n]).length), Lib.atoiAll rest[j] = .ok (ns ++ [n])[j] := by
  obtain ⟨rfl, h2⟩ := h
  intro j hj hj'
  rcases Nat.lt_or_ge j ns.length with hlt | hge
  · rw [List.getElem_append_left hlt]; exact h2 j hj hlt
  · have : j = ns.length := by rw [List.length_append] at hj'; simp at hj'; omega
    subst this
    rw [List.getElem_append_right (Nat.le_refl _)]
    simp only [Nat.sub_self, List.getElem_cons_zero]
    exact hn
/-- A part is put: whichever. -/
theorem putP_any (f : FuncId) (hf : f = 107 ∨ f = 101 ∨ f = 108 ∨ f = 109 ∨ f = 110) (e : Ev) (b q : Nat) (n : Int) (t : TypeId) (w : World) (hb : Blk w b (evC e) t) (hne : q ≠ b) (hq : w.cell? ⟨q, 0, none⟩ = some (.int .i64 n)) (hn : -9223372036854775808 ≤ n ∧ n ≤ 9223372036854775807) :
    Calls Tryd.prog f #[.pointer (some ⟨b, 0, none⟩), .slice (some ⟨q, 0, none⟩) 1 1] w fun e' w' => (∃ x, e' = .returned x) ∧ Blk w' b (evC (putF e f n)) t ∧ Turn [b] w w' := by
  rcases hf with rfl | rfl | rfl | rfl | rfl
  · refine (put_tx b q n _ t w hb (by simp [evC]) hne hq hn).mono ?_
    rintro e' w' ⟨rfl, h1, h2⟩
    exact ⟨⟨_, rfl⟩, h1, h2⟩
  · refine (put_at b q n _ t w hb (by simp [evC]) hne hq hn).mono ?_
    rintro e' w' ⟨rfl, h1, h2⟩
    exact ⟨⟨_, rfl⟩, h1, h2⟩
  · refine (put_v b q n _ t w hb (by simp [evC]) hne hq hn).mono ?_
    rintro e' w' ⟨rfl, h1, h2⟩
    exact ⟨⟨_, rfl⟩, h1, h2⟩
  · refine (put_x b q n _ t w hb (by simp [evC]) hne hq hn).mono ?_
    rintro e' w' ⟨rfl, h1, h2⟩
    exact ⟨⟨_, rfl⟩, h1, h2⟩
  · refine (put_why' b q n _ t w hb (by simp [evC]) hne hq).mono ?_
    rintro e' w' ⟨rfl, h1, h2⟩
    exact ⟨⟨_, rfl⟩, h1, h2⟩
set_option maxRecDepth 100000 in
set_option maxHeartbeats 8000000 in
theorem parse_loop (L : List UInt8) (hl : L.length ≤ 1000) (w : World) (hS : Std w) (t0 t1 : List UInt8) (rest : List (List UInt8)) (hT : Lib.split L [32] = t0 :: t1 :: rest) (k : Nat) (hk : kindOf t1 = some k) (th : Int) (hok : Lib.atoiAll t0 = .ok th) (hlen : rest.length = (kindsL.getD k []).length) : Calls Tryd.prog 13 #[.string ⟨L.toArray⟩] w (ParseP L w) := by
  have HSP := hid (fun W (hW : Below w.heap.size w W) => split_any L hl W (hS.below hW))
  rw [hT] at HSP
  have HRN : Hid (numsOf rest = none → parseR L = (evZ, 4)) := hid (fun h => parseR_none (by unfold parseE; rw [hT]; simp only [hk, hok, okOf]; rw [if_pos hlen, h]; rfl))
  have HRS : Hid (∀ ns, numsOf rest = some ns → parseR L = if mayT (foldPut ⟨(k : Int), th, 0, 0, 0, 0, 0⟩ (kindsL.getD k []) ns) = true ∧ showT (foldPut ⟨(k : Int), th, 0, 0, 0, 0, 0⟩ (kindsL.getD k []) ns) = L then (foldPut ⟨(k : Int), th, 0, 0, 0, 0, 0⟩ (kindsL.getD k []) ns, 0) else (evZ, 4)) := hid (fun ns h => parseR_some (by unfold parseE; rw [hT]; simp only [hk, hok, okOf]; rw [if_pos hlen, h]; rfl))
  have hl0 : t0.length ≤ 1000 := Nat.le_trans (split_len L t0 (by rw [hT]; simp)) hl
  have HLR := hid (fun t (ht : t ∈ rest) => Nat.le_trans (split_len L t (by rw [hT]; simp [ht])) hl)
  have HKD := hid (fun W (hW : Below w.heap.size w W) => kind_any t1 W (hS.below hW).names)
  rw [hk] at HKD
  have HAT := hid (fun W (hW : Below w.heap.size w W) => atoi_ok t0 hl0 th hok W)
  have HTH := hid (Lib.atoiAll_bounds hok)
  obtain ⟨hk1, hk2, -⟩ := kindOf_is hk
  have HFS0 : kindsL[k]? = some (kindsL.getD k []) := by
    rw [List.getD_eq_getElem?_getD]
    cases hl : kindsL[k]? with
    | none => exact absurd (List.getElem?_eq_none_iff.1 hl) (by simp [kindsL]; omega)
    | some l => rfl
  obtain ⟨ka, kcap, kc, -, kc3⟩ := hS.kinds k (kindsL.getD k []) HFS0
  have HFC := hid (fun f (h : f ∈ kindsL.getD k []) => part_cases (k := k) (f := f) h)
  generalize hfs : kindsL.getD k [] = fs at hlen kc kc3 HRS HFC
  have HK3 := hid kc3
  have HS := hid hS
  have HLEN := hid hlen
  have hTl : (t0 :: t1 :: rest).length = rest.length + 2 := rfl
  have HK13 := hid (And.intro hk1 hk2)
  have q1 : (0 : Int) ≤ (k : Int) := by omega
  have q2 : (k : Int) < 14 := by omega
  have g1 : decide (((t0 :: t1 :: rest).length : Int) < 2) = false := by rw [decide_eq_false_iff_not]; simp only [List.length_cons]; omega
  have HRG : Hid (∀ j (h : j < rest.length), (t0 :: t1 :: rest)[2 + j]? = some rest[j]) := hid (fun j h => by rw [Nat.add_comm]; simp [h])
  have HFEW := hid (splitK_few L)
  rw [hT] at HFEW
  generalize hTT : t0 :: t1 :: rest = T at HSP g1 hTl HRG HFEW
  have q5 : IntKind.i64.wrap ((T.length : Int) - 2) = (T.length : Int) - 2 := IntWalk.i64_in _ (by have := HFEW.out; omega)
  have q4 : ((T.length : Int) - 2 != (fs.length : Int)) = false := by simp; omega
  have HTL := hid hTl
  have HL := hid hl
  have g2 : decide (T.length < 2) = false := by subst hTT; rw [decide_eq_false_iff_not]; simp only [List.length_cons]; omega
  have g3 : (1 : Int) < (T.length : Int) := by subst hTT; simp only [List.length_cons]; omega
  have HC : Hid ((T.map strV).toArray[0]? = some (.string ⟨t0.toArray⟩) ∧ (T.map strV).toArray[1]? = some (.string ⟨t1.toArray⟩)) := hid (by subst hTT; exact ⟨rfl, rfl⟩)
  clear hS hl hTT hT hk hl0 hok hlen hfs hTl hk1 hk2 HFS0 kc3
  have HB0 : Hid (Below w.heap.size w (w.alloc (.cells #[.int .u8 0, .int .i64 0, .int .i64 0, .int .i64 0, .int .i64 0, .int .i64 0, .int .u8 0] 23))) := hid (ext_alloc (ext_refl _) _)
  go_enter Tryd.func13, Tryd.ntmps13
  go_wp2_with fail
  refine (HSP.out _ HB0.out).mono ?_
  rintro e' w1 ⟨rfl, rfl⟩
  have HB1 := hid (ext_alloc HB0.out (.cells (T.map strV).toArray 9))
  have hr := Blk.new' (w.alloc (.cells #[.int .u8 0, .int .i64 0, .int .i64 0, .int .i64 0, .int .i64 0, .int .i64 0, .int .u8 0] 23)) (T.map strV).toArray 9 (b := w.heap.size + 1) (Array.size_push ..).symm
  have r0 := hr.cell 0 HC.out.1
  have r1 := hr.cell 1 HC.out.2
  have z := (Blk.new w #[.int .u8 0, .int .i64 0, .int .i64 0, .int .i64 0, .int .i64 0, .int .i64 0, .int .u8 0] 23).alloc (.cells (T.map strV).toArray 9)
  have HR1 := hid hr
  have HZ1 := hid z
  clear hr z
  go_wp2_with fail
  refine (HKD.out _ HB1.out).mono ?_
  unfold kindV
  rintro e' w1 ⟨rfl, rfl⟩
  go_wp2_with fail
  refine (HAT.out _ HB1.out).mono ?_
  rintro e' w2 ⟨rfl, hb2⟩
  have HB2 := hid (ext_trans HB1.out hb2)
  have HZ2 := hid (HZ1.out.below hb2)
  have HR2 := hid (HR1.out.below hb2)
  have kc' := later HB2.out kc
  have kc'' := cell_alloc (x := .cells #[.int .u8 (k : Int), .int .i64 th, .int .i64 0, .int .i64 0, .int .i64 0, .int .i64 0, .int .u8 0] 54) kc'
  have HLT2 := hid (And.intro HZ2.out.lt HR2.out.lt)
  have HB3 := hid (ext_alloc HB2.out (.cells #[.int .u8 (k : Int), .int .i64 th, .int .i64 0, .int .i64 0, .int .i64 0, .int .i64 0, .int .u8 0] 54))
  have HZ3 := hid (HZ2.out.alloc (.cells #[.int .u8 (k : Int), .int .i64 th, .int .i64 0, .int .i64 0, .int .i64 0, .int .i64 0, .int .u8 0] 54))
  have HR3 := hid (HR2.out.alloc (.cells #[.int .u8 (k : Int), .int .i64 th, .int .i64 0, .int .i64 0, .int .i64 0, .int .i64 0, .int .u8 0] 54))
  have HE3 : Hid (Blk (w2.alloc (.cells #[.int .u8 (k : Int), .int .i64 th, .int .i64 0, .int .i64 0, .int .i64 0, .int .i64 0, .int .u8 0] 54)) w2.heap.size (evC (foldPut ⟨(k : Int), th, 0, 0, 0, 0, 0⟩ (fs.take 0) [])) 54) := hid (by
    simp only [List.take_zero, foldPut]; exact Blk.new _ _ _)
  have HOK3 : Hid (EvOk (foldPut ⟨(k : Int), th, 0, 0, 0, 0, 0⟩ (fs.take 0) [])) := hid (by
    simp only [List.take_zero, foldPut]
    have h1 := HTH.out
    have h2 := HK13.out
    refine ⟨by dsimp only; omega, by dsimp only; omega, by dsimp only; omega, by dsimp only; omega, by dsimp only; omega, by dsimp only; omega, by dsimp only; omega⟩)
  clear hb2 r0 r1 kc
  go_wp2_with fail
  clear kc' kc''
  go_loopw [64] (fun i wr => ∃ (m : Nat) (ns : List Int), m ≤ fs.length ∧ i = .int .i64 (m : Int) ∧ Hid (ns.length = m ∧ ∀ j (h : j < rest.length) (h' : j < ns.length), Lib.atoiAll rest[j] = .ok ns[j]) ∧ Hid (EvOk (foldPut ⟨(k : Int), th, 0, 0, 0, 0, 0⟩ (fs.take m) ns)) ∧ Hid (Blk wr w2.heap.size (evC (foldPut ⟨(k : Int), th, 0, 0, 0, 0, 0⟩ (fs.take m) ns)) 54) ∧ Hid (Turn [w2.heap.size] (w2.alloc (.cells #[.int .u8 (k : Int), .int .i64 th, .int .i64 0, .int .i64 0, .int .i64 0, .int .i64 0, .int .u8 0] 54)) wr)) (fun i _ => fs.length - (intOf i).toNat)
  case atStart => exact ⟨0, [], Nat.zero_le _, rfl, hid ⟨rfl, fun j h h' => by simp at h'⟩, HOK3, HE3, hid (Turn.refl _ _)⟩
  case round =>
    obtain ⟨m, ns, hm, rfl, HNS, HOKM, HE, HTU⟩ := hrel
    have HBR : Hid (Below w.heap.size w wr) := hid (HB3.out.trans (HTU.out.below (by intro x hx; simp at hx; subst hx; exact HB2.out.size) HB3.out.size))
    have HZ4 := hid (HTU.out.blk (by simp; have := HLT2.out.1; omega) HZ3.out)
    have HR4 := hid (HTU.out.blk (by simp; have := HLT2.out.2; omega) HR3.out)
    have HM := hid hm
    by_cases hlt : m < fs.length
    · have hmr : m < rest.length := by have := HLEN.out; omega
      have g1' : decide ((m : Int) < (fs.length : Int)) = true := by rw [decide_eq_true_iff]; omega
      have g2' : decide (m < fs.length) = true := by rw [decide_eq_true_iff]; omega
      have g3' : (0 : Int) ≤ (m : Int) := by omega
      have g5 : IntKind.i64.wrap (2 + (m : Int)) = 2 + (m : Int) := IntWalk.i64_in _ (by have := HFEW.out; have := HTL.out; have := HL.out; omega)
      have g7 : IntKind.i64.wrap ((m : Int) + 1) = (m : Int) + 1 := IntWalk.i64_in _ (by have := HFEW.out; have := HTL.out; have := HL.out; omega)
      have g6 : (2 : Int) + (m : Int) < (T.length : Int) := by have := HTL.out; omega
      obtain ⟨b, o, rfl, hcell⟩ := HK3.out (by intro h; rw [h] at hlt; simp at hlt)
      have c := later HBR.out (hcell m hlt)
      have HC5 := hid (HFC.out fs[m] (List.getElem_mem hlt))
      have HLT := hid hlt
      have HMR := hid hmr
      have HLE := hid (HLR.out rest[m] (List.getElem_mem hmr))
      have cr := HR4.out.cell (2 + m) (v := .string ⟨(rest[m]).toArray⟩) (by rw [List.getElem?_toArray, List.getElem?_map, HRG.out m hmr]; rfl)
      generalize hfn : fs[m] = f at c HC5
      have HFN := hid hfn
      by_cases hok : ∃ n, Lib.atoiAll rest[m] = .ok n
      · obtain ⟨n, hn⟩ := hok
        have HPI := hid (fun W => pint_ok rest[m] HLE.out n hn W)
        have HN := hid hn
        have HNB := hid (Lib.atoiAll_bounds hn)
        generalize rest[m] = tm at cr HPI
        clear hlt hcell hfn hm hmr hn
        rcases HC5.out with rfl | rfl | rfl | rfl | rfl
        all_goals (
          go_wp2_with fail
          refine (HPI.out _).mono ?_
          rintro e' w3 ⟨rfl, hb3⟩
          have HE5 := hid (HE.out.below hb3)
          have HT5 := hid (HTU.out.trans (Turn.of_below hb3))
          clear hb3 c cr
          go_wp2_with fail
          refine (putP_any _ (by simp) _ w2.heap.size w3.heap.size n _ _ (HE5.out.alloc (.cells #[.int .i64 n] 2)) (Nat.ne_of_gt HE5.out.lt) ((Blk.new _ _ _).cell 0 rfl) HNB.out).mono ?_
          rintro e' w4 ⟨⟨xv, rfl⟩, hE7, hT7⟩
          have HE7 := hid (foldPut_step HLT.out HFN.out HNS.out.1 hE7)
          have HT7 := hid ((HT5.out.alloc (.cells #[.int .i64 n] 2)).trans hT7)
          clear hE7 hT7
          go_wp2_with fail
          go_roundw
          case rel => exact ⟨m + 1, ns ++ [n], by have := HLT.out; omega, by simp, hid ⟨by rw [List.length_append, HNS.out.1]; rfl, nums_snoc HNS.out HMR.out HN.out⟩, hid (foldPut_step_ok HLT.out HFN.out HNS.out.1 HOKM.out HNB.out), HE7, HT7⟩
          case measure => have := HLT.out; simp [intOf]; omega)
      · have HBAD : Hid (∀ v, Lib.atoiAll rest[m] ≠ .ok v) := hid (fun v hv => hok ⟨v, hv⟩)
        have HRES := hid (HRN.out (numsOf_bad m HMR.out HBAD.out))
        have HPB := hid (pint_bad rest[m] HLE.out HBAD.out wr (HS.out.below HBR.out))
        generalize rest[m] = tm at cr HPB
        clear hlt hcell hfn hm hmr hok HBAD
        go_wp2_with fail
        refine (HPB.out).mono ?_
        rintro e' w3 ⟨vv, N, rfl, hb3⟩
        have HEND := hid (ext_trans HBR.out hb3)
        have HZ7 := hid (HZ4.out.below hb3)
        have z0 := HZ7.out.cell 0 rfl
        have z1 := HZ7.out.cell 1 rfl
        have z2 := HZ7.out.cell 2 rfl
        have z3 := HZ7.out.cell 3 rfl
        have z4 := HZ7.out.cell 4 rfl
        have z5 := HZ7.out.cell 5 rfl
        have z6 := HZ7.out.cell 6 rfl
        have f0 := HZ7.out.free 0
        have f1 := HZ7.out.free 1
        have f2 := HZ7.out.free 2
        have f3 := HZ7.out.free 3
        have f4 := HZ7.out.free 4
        have f5 := HZ7.out.free 5
        have f6 := HZ7.out.free 6
        clear hb3 c cr
        go_wp2_with fail
        have y := put7 HZ7.out (.int .u8 0) (.int .i64 0) (.int .i64 0) (.int .i64 0) (.int .i64 0) (.int .i64 0) (.int .u8 0)
        have y0 := y.cell 0 rfl
        have y1 := y.cell 1 rfl
        have y2 := y.cell 2 rfl
        have y3 := y.cell 3 rfl
        have y4 := y.cell 4 rfl
        have y5 := y.cell 5 rfl
        have y6 := y.cell 6 rfl
        exact bodyPost_ret (v := .tuple #[evA evZ, .int .i64 4]) (by simp [results, Tryd.results13, go_sem, y0, y1, y2, y3, y4, y5, y6, evA, evZ]) rfl (by unfold ParseP; rw [HRES.out]; exact ⟨rfl, below7 HEND.out (Nat.le_refl _) _ _ _ _ _ _ _⟩)
    · obtain rfl : m = fs.length := by omega
      have g1' : decide ((fs.length : Int) < (fs.length : Int)) = false := by rw [decide_eq_false_iff_not]; omega
      have g2' : decide (fs.length < fs.length) = false := by rw [decide_eq_false_iff_not]; omega
      have HNUM := hid (HRS.out ns (numsOf_get (by rw [HNS.out.1, HLEN.out]) HNS.out.2))
      have hE := HE.out
      have hO := HOKM.out
      rw [List.take_length] at hE hO
      generalize foldPut ⟨(k : Int), th, 0, 0, 0, 0, 0⟩ fs ns = e at HNUM hE hO
      have HSY := hid (fun (hm : mayT e = true) => show_yes e wr hO (HS.out.below HBR.out) hm)
      have HSN := hid (fun (hm : mayT e = false) => show_no e wr hO (HS.out.below HBR.out) hm)
      obtain ⟨kd, t', tx, at_, v, x, why⟩ := e
      dsimp only [evC] at hE
      have d0 := hE.cell 0 rfl
      have d1 := hE.cell 1 rfl
      have d2 := hE.cell 2 rfl
      have d3 := hE.cell 3 rfl
      have d4 := hE.cell 4 rfl
      have d5 := hE.cell 5 rfl
      have d6 := hE.cell 6 rfl
      have HEE := hid hE
      clear hE hO hlt hm
      dsimp only [evA] at HSY HSN
      by_cases hmay : mayT ⟨kd, t', tx, at_, v, x, why⟩ = true
      · by_cases hL : showT ⟨kd, t', tx, at_, v, x, why⟩ = L
        · have HRES := hid (HNUM.out.trans (if_pos ⟨hmay, hL⟩))
          have HSH := hid (HSY.out hmay)
          rw [hL] at HSH
          unfold strV at HSH
          have hb' : (L == L) = true := by simp
          clear hmay hL HSY HSN
          go_wp2_with fail
          refine (HSH.out).mono ?_
          rintro e' w3 ⟨rfl, hb3⟩
          have HEND := hid (ext_trans HBR.out hb3)
          have HZ7 := hid (HZ4.out.below hb3)
          have HE9 := HEE.out.below hb3
          have d0 := HE9.cell 0 rfl
          have d1 := HE9.cell 1 rfl
          have d2 := HE9.cell 2 rfl
          have d3 := HE9.cell 3 rfl
          have d4 := HE9.cell 4 rfl
          have d5 := HE9.cell 5 rfl
          have d6 := HE9.cell 6 rfl
          have z0 := HZ7.out.cell 0 rfl
          have z1 := HZ7.out.cell 1 rfl
          have z2 := HZ7.out.cell 2 rfl
          have z3 := HZ7.out.cell 3 rfl
          have z4 := HZ7.out.cell 4 rfl
          have z5 := HZ7.out.cell 5 rfl
          have z6 := HZ7.out.cell 6 rfl
          have f0 := HZ7.out.free 0
          have f1 := HZ7.out.free 1
          have f2 := HZ7.out.free 2
          have f3 := HZ7.out.free 3
          have f4 := HZ7.out.free 4
          have f5 := HZ7.out.free 5
          have f6 := HZ7.out.free 6
          clear hb3 HE9
          go_wp2_with fail
          have y := put7 HZ7.out (.int .u8 kd) (.int .i64 t') (.int .i64 tx) (.int .i64 at_) (.int .i64 v) (.int .i64 x) (.int .u8 why)
          have y0 := y.cell 0 rfl
          have y1 := y.cell 1 rfl
          have y2 := y.cell 2 rfl
          have y3 := y.cell 3 rfl
          have y4 := y.cell 4 rfl
          have y5 := y.cell 5 rfl
          have y6 := y.cell 6 rfl
          exact bodyPost_ret (v := .tuple #[.agg #[.int .u8 kd, .int .i64 t', .int .i64 tx, .int .i64 at_, .int .i64 v, .int .i64 x, .int .u8 why], .int .i64 0]) (by simp [results, Tryd.results13, go_sem, y0, y1, y2, y3, y4, y5, y6, evA, evZ]) rfl (by unfold ParseP; rw [HRES.out]; exact ⟨rfl, below7 HEND.out (Nat.le_refl _) _ _ _ _ _ _ _⟩)
        · have HRES := hid (HNUM.out.trans (if_neg (fun h => hL h.2)))
          have HSH := hid (HSY.out hmay)
          unfold strV at HSH
          have hb' : (showT ⟨kd, t', tx, at_, v, x, why⟩ == L) = false := by simpa using hL
          generalize showT ⟨kd, t', tx, at_, v, x, why⟩ = S at HSH hb'
          clear hmay hL HSY HSN
          go_wp2_with fail
          refine (HSH.out).mono ?_
          rintro e' w3 ⟨rfl, hb3⟩
          have HEND := hid (ext_trans HBR.out hb3)
          have HZ7 := hid (HZ4.out.below hb3)
          have z0 := HZ7.out.cell 0 rfl
          have z1 := HZ7.out.cell 1 rfl
          have z2 := HZ7.out.cell 2 rfl
          have z3 := HZ7.out.cell 3 rfl
          have z4 := HZ7.out.cell 4 rfl
          have z5 := HZ7.out.cell 5 rfl
          have z6 := HZ7.out.cell 6 rfl
          have f0 := HZ7.out.free 0
          have f1 := HZ7.out.free 1
          have f2 := HZ7.out.free 2
          have f3 := HZ7.out.free 3
          have f4 := HZ7.out.free 4
          have f5 := HZ7.out.free 5
          have f6 := HZ7.out.free 6
          clear hb3
          go_wp2_with fail
          have y := put7 HZ7.out (.int .u8 0) (.int .i64 0) (.int .i64 0) (.int .i64 0) (.int .i64 0) (.int .i64 0) (.int .u8 0)
          have y0 := y.cell 0 rfl
          have y1 := y.cell 1 rfl
          have y2 := y.cell 2 rfl
          have y3 := y.cell 3 rfl
          have y4 := y.cell 4 rfl
          have y5 := y.cell 5 rfl
          have y6 := y.cell 6 rfl
          exact bodyPost_ret (v := .tuple #[evA evZ, .int .i64 4]) (by simp [results, Tryd.results13, go_sem, y0, y1, y2, y3, y4, y5, y6, evA, evZ]) rfl (by unfold ParseP; rw [HRES.out]; exact ⟨rfl, below7 HEND.out (Nat.le_refl _) _ _ _ _ _ _ _⟩)
      · have HRES := hid (HNUM.out.trans (if_neg (fun h => hmay h.1)))
        have HSH := hid (HSN.out (by simpa using hmay))
        clear hmay HSY HSN
        go_wp2_with fail
        refine (HSH.out).mono ?_
        rintro e' w3 ⟨rfl, hb3⟩
        have HEND := hid (ext_trans HBR.out hb3)
        have HZ7 := hid (HZ4.out.below hb3)
        have z0 := HZ7.out.cell 0 rfl
        have z1 := HZ7.out.cell 1 rfl
        have z2 := HZ7.out.cell 2 rfl
        have z3 := HZ7.out.cell 3 rfl
        have z4 := HZ7.out.cell 4 rfl
        have z5 := HZ7.out.cell 5 rfl
        have z6 := HZ7.out.cell 6 rfl
        have f0 := HZ7.out.free 0
        have f1 := HZ7.out.free 1
        have f2 := HZ7.out.free 2
        have f3 := HZ7.out.free 3
        have f4 := HZ7.out.free 4
        have f5 := HZ7.out.free 5
        have f6 := HZ7.out.free 6
        clear hb3
        go_wp2_with fail
        have y := put7 HZ7.out (.int .u8 0) (.int .i64 0) (.int .i64 0) (.int .i64 0) (.int .i64 0) (.int .i64 0) (.int .u8 0)
        have y0 := y.cell 0 rfl
        have y1 := y.cell 1 rfl
        have y2 := y.cell 2 rfl
        have y3 := y.cell 3 rfl
        have y4 := y.cell 4 rfl
        have y5 := y.cell 5 rfl
        have y6 := y.cell 6 rfl
        exact bodyPost_ret (v := .tuple #[evA evZ, .int .i64 4]) (by simp [results, Tryd.results13, go_sem, y0, y1, y2, y3, y4, y5, y6, evA, evZ]) rfl (by unfold ParseP; rw [HRES.out]; exact ⟨rfl, below7 HEND.out (Nat.le_refl _) _ _ _ _ _ _ _⟩)
end Go.Proofs.YtlbpollckiidlaaDoor
