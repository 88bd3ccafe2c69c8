/-
  Walk: (pack.writer).block.
-/
import Derived.Test.YtaklfjjkeebheaaPkI
namespace Go.Proofs.Ytaklfjjkeebheaa
set_option linter.unusedVariables false
set_option linter.unusedSimpArgs false
set_option linter.unusedVariables false
open Go Go.RowKit Go.Lib
set_option maxHeartbeats 4000000 in
set_option maxRecDepth 100000 in
set_option maxHeartbeats 4000000 in
theorem wblock_any (s : Nat) : ∀ (l : List St) (b : Nat) (bs : List Nat) (v vl : Value) (W0 W : World), sizeT l ≤ s → WrtO W b 16777216 bs (b + 1) v → W0.heap.size = b → Below b W0 W → b < W.heap.size → RdTx W0 l vl → (∀ x ∈ flatT l, 1 ≤ x.kind ∧ x.kind ≤ 8) → bs.length + (blockB l).length ≤ 16000000 →
    Calls Try.prog 20 #[.agg #[.pointer (some ⟨b, 0, none⟩)], vl] W (WrP b v W (bs ++ blockB l)) := by
  induction s using Nat.strongRecOn with
  | ind s ih =>
  intro l b bs v vl W0 W hs hw h0 hb hlt hr hkd hfit
  obtain ⟨a, cap, rfl, hll, hx⟩ := hr
  obtain ⟨W1, hW1⟩ : ∃ W1, W1 = W.alloc (.cells #[.pointer (some ⟨b, 0, none⟩)] 52) := ⟨_, rfl⟩
  have hb1 : Below W.heap.size W W1 := by rw [hW1]; exact ext_alloc (ext_refl _) _
  have hbx : Blk W1 W.heap.size #[.pointer (some ⟨b, 0, none⟩)] 52 := by rw [hW1]; exact Blk.new _ _ _
  have hsz1 : W1.heap.size = W.heap.size + 1 := by rw [hW1]; simp
  have hw1 := hw.below hb1
  have hlow : ∀ {x u wr}, WrG b v W1 x u wr → Below b W0 wr := fun hG => (hb.trans (hb1.mono (by omega))).trans (hG.low hw1 (Nat.le_refl _) (by omega))
  have hkx : ∀ {x u wr}, WrG b v W1 x u wr → Blk wr W.heap.size #[.pointer (some ⟨b, 0, none⟩)] 52 := fun hG => (hG.keep (by omega) (by omega) (fun g hg e => by have := (hw.own.lt g hg).2; omega)).trans hbx
  have HLOW : Hid (∀ x u wr, WrG b v W1 x u wr → Below b W0 wr) := hid (fun _ _ _ h => hlow h)
  have HKX : Hid (∀ x u wr, WrG b v W1 x u wr → Blk wr W.heap.size #[.pointer (some ⟨b, 0, none⟩)] 52) := hid (fun _ _ _ h => hkx h)
  have HB1 := hid hb1
  have HW1 := hid hW1
  have HS1 := hid hsz1
  have HB := hid (show b < W.heap.size from hlt)
  have H0 := hid h0
  have IH := hid ih
  have HS := hid hs
  have HFIT := hid hfit
  have HX := hid hx
  have HKD := hid hkd
  have HLL := hid hll
  have hlen : IntKind.i64.wrap (l.length : Int) = (l.length : Int) := IntWalk.i64_in _ (by omega)
  obtain ⟨W2, hW2⟩ : ∃ W2, W2 = W1.alloc (.cells #[.int .i64 (l.length : Int)] 3) := ⟨_, rfl⟩
  have hb2 : Below W1.heap.size W1 W2 := by rw [hW2]; exact ext_alloc (ext_refl _) _
  have hn2 : Blk W2 W1.heap.size (([(l.length : Int)].map (Value.int .i64 ·)).toArray) 3 := by rw [hW2]; exact Blk.new _ _ _
  have HNUM := hid (wnum_any b W1.heap.size bs v [(l.length : Int)] 1 W2 (hw1.below hb2) hn2 (by simp) (by omega) (by have := hb2.size; omega) ⟨by omega, fun g hg e => by have := (hw1.own.lt g hg).2; omega⟩)
  have hss : W1.heap.size = W.heap.size + 1 := hsz1
  rw [hss] at HNUM
  have HG2 := hid ((WrG.refl hw1).below hb2)
  have HW2 := hid hW2
  have x1 := hbx.cell 0 (v := .pointer (some ⟨b, 0, none⟩)) rfl
  rw [hW1] at x1
  have hul : u64 (l.length : Int) = l.length := u64_nat (by omega)
  obtain ⟨Q, hQ⟩ : ∃ Q, Q = WrP b v W (bs ++ blockB l) := ⟨_, rfl⟩
  rw [← hQ]
  have HQ := hid hQ
  have HUL := hid hul
  clear hs hw h0 hb hlt hll hx hkd hfit ih hb1 hbx hsz1 hw1 hlow hkx hb2 hn2 hQ hss hW1 hW2 hul
  go_enter Try.func20, Try.ntmps20
  go_wp2_with fail
  rw [← HW1.out, ← HW2.out]
  refine HNUM.out.mono ?_
  rintro e' w3 ⟨⟨y, rfl⟩, u3, hG3⟩
  have hG3 := HG2.out.trans hG3
  rw [numsB_one, HUL.out] at hG3
  have HG3 := hid hG3
  clear hG3 x1 HW1 HW2 HNUM HG2
  go_wp2_with fail
  go_loopw [15, 5, 7] (fun i _ _ wr => ∃ (k : Nat) (u : Value) (W' : World), W' = wr ∧ k ≤ l.length ∧ i = .int .i64 k ∧ WrG b v W1 (bs ++ putN l.length ++ stsB (l.take k)) u W') (fun i _ _ _ => l.length - (Go.RowKit.intOf i).toNat)
  case atStart => exact ⟨0, _, _, rfl, Nat.zero_le _, rfl, by simpa [stsB] using HG3.out⟩
  case round =>
    clear HG3
    obtain ⟨k, u, wr, hwr, hk, rfl, hG⟩ := hrel
    subst hwr
    by_cases hlt : k < l.length
    · obtain ⟨q, off, ha, hre⟩ := HX.out (by intro h; rw [h] at hlt; simp at hlt)
      obtain ⟨pa, ca, pb, cb, po, co, pe, ce, d0, d1, d2, d3, d4, d5, d6, d7, d8, d9, hst⟩ := hre.get10 k hlt
      have hlo := HLOW.out _ _ _ hG
      rw [← H0.out] at hlo
      have q0 := later hlo d0
      have q1 := later hlo d1
      have q2 := later hlo d2
      have q3 := later hlo d3
      have q4 := later hlo d4
      have q5 := later hlo d5
      have q6 := later hlo d6
      have q7 := later hlo d7
      have q8 := later hlo d8
      have q9 := later hlo d9
      have hql : q < wr.heap.size := lt_of_cell q0
      have x4 := (HKX.out _ _ _ hG).cell 0 (v := .pointer (some ⟨b, 0, none⟩)) rfl
      have hxl := (HKX.out _ _ _ hG).lt
      have hflt := flat_sub hlt
      have hszg := sizeT_get l k hlt
      have hfl := stsB_le l k hlt
      have htk := stsB_take l k hlt
      generalize l[k] = st at *
      have hkst := HKD.out st hflt.2.2
      obtain ⟨kd, hkdn⟩ : ∃ kd : Nat, st.kind = (kd : Int) := ⟨st.kind.toNat, by omega⟩
      have hkb : 1 ≤ kd ∧ kd ≤ 8 := by omega
      have hbw : b < wr.heap.size := by have := HB.out; have := HS1.out; have := hG.turn.size; omega
      have hstb : stB st = putN kd ++ (lettersOf kd).flatMap (letOf st) := by rw [stB_is, hkdn, u64_nat (by omega), Int.toNat_natCast]
      have hfitk : (bs ++ putN l.length ++ stsB (l.take k)).length + (stB st).length ≤ 16000000 := by
        have := HFIT.out; unfold blockB at this; simp only [List.length_append] at this ⊢; omega
      rw [hkdn] at q0 d0
      obtain ⟨-, -, hra, hrb, hro, hre'⟩ := hst.shape
      have hsub := hst
      cases st with | mk skd sto sa sb sbody sels =>
      simp only [St.kind, St.to, St.a, St.b, St.body, St.els] at *
      unfold RdSt at hsub
      obtain ⟨-, -, -, htor, -, -, -, -⟩ := hsub
      have hsb := sizeS_body (.mk skd sto sa sb sbody sels)
      have hse := sizeS_els (.mk skd sto sa sb sbody sels)
      simp only [St.body, St.els] at hsb hse
      -- the statement's box
      obtain ⟨W4, hW4⟩ : ∃ W4, W4 = wr.alloc (.cells #[.int .u8 (kd : Int), .int .i64 sto, .int .u8 sa.op, .int .i64 sa.n, .slice pa sa.args.length ca, .int .u8 sb.op, .int .i64 sb.n, .slice pb sb.args.length cb, .slice po sbody.length co, .slice pe sels.length ce] 91) := ⟨_, rfl⟩
      have hb4 : Below wr.heap.size wr W4 := by rw [hW4]; exact ext_alloc (ext_refl _) _
      have hX4 : Blk W4 wr.heap.size #[.int .u8 (kd : Int), .int .i64 sto, .int .u8 sa.op, .int .i64 sa.n, .slice pa sa.args.length ca, .int .u8 sb.op, .int .i64 sb.n, .slice pb sb.args.length cb, .slice po sbody.length co, .slice pe sels.length ce] 91 := by rw [hW4]; exact Blk.new _ _ _
      have hs4 : W4.heap.size = wr.heap.size + 1 := by rw [hW4]; simp
      have hw4 := hG.w.below hb4
      have hGG : ∀ {x u' W'}, WrG b u W4 x u' W' → WrG b v W1 x u' W' := fun h => (hG.below hb4).trans h
      have HGG : Hid (∀ x u' W', WrG b u W4 x u' W' → WrG b v W1 x u' W') := hid (fun _ _ _ h => hGG h)
      have HKS : Hid (∀ x u' W', WrG b u W4 x u' W' → Blk W' wr.heap.size #[.int .u8 (kd : Int), .int .i64 sto, .int .u8 sa.op, .int .i64 sa.n, .slice pa sa.args.length ca, .int .u8 sb.op, .int .i64 sb.n, .slice pb sb.args.length cb, .slice po sbody.length co, .slice pe sels.length ce] 91) :=
        hid (fun _ _ _ h => (h.keep (by omega) (by omega) (fun g hg e => by have := (hG.w.own.lt g hg).2; omega)).trans hX4)
      obtain ⟨bs4, hbs4⟩ : ∃ bs4, bs4 = bs ++ putN l.length ++ stsB (l.take k) := ⟨_, rfl⟩
      rw [← hbs4] at hw4 hfitk
      obtain ⟨W5, hW5⟩ : ∃ W5, W5 = W4.alloc (.cells #[.int .i64 (kd : Int)] 3) := ⟨_, rfl⟩
      have hb5 : Below W4.heap.size W4 W5 := by rw [hW5]; exact ext_alloc (ext_refl _) _
      have hn5 : Blk W5 W4.heap.size (([(kd : Int)].map (Value.int .i64 ·)).toArray) 3 := by rw [hW5]; exact Blk.new _ _ _
      have HNUM := hid (wnum_any b W4.heap.size bs4 u [(kd : Int)] 1 W5 (hw4.below hb5) hn5 (by simp) (by omega) (by have := hb5.size; omega) ⟨by omega, fun g hg e => by have := (hw4.own.lt g hg).2; omega⟩)
      rw [hs4] at HNUM
      have HG5 := hid ((WrG.refl hw4).below hb5)
      have HW5 := hid hW5
      have HW4 := hid hW4
      have HSTB := hid hstb
      have HFK := hid hfitk
      have HTK := hid htk
      have HBS4 := hid hbs4
      have HLT := hid hlt
      have HBW := hid hbw
      have HKB := hid hkb
      have HTO := hid htor
      have HRA := hid hra
      have HRB := hid hrb
      have HRO := hid hro
      have HRE := hid hre'
      have HSZ := hid (show sizeT sbody < s ∧ sizeT sels < s by have := HS.out; omega)
      have HSZO := hid (show sizeT sbody ≤ sizeT l ∧ sizeT sels ≤ sizeT l by omega)
      have HFO : Hid (∀ x ∈ flatT sbody, 1 ≤ x.kind ∧ x.kind ≤ 8) := hid (fun x hx => HKD.out x (hflt.1 x hx))
      have HFE : Hid (∀ x ∈ flatT sels, 1 ≤ x.kind ∧ x.kind ≤ 8) := hid (fun x hx => HKD.out x (hflt.2.1 x hx))
      have HS4 := hid hs4
      have j1 : decide ((k : Int) < (l.length : Int)) = true := by rw [decide_eq_true_iff]; omega
      have j2 : decide (k < l.length) = true := decide_eq_true hlt
      have j3 : IntKind.i64.wrap ((k : Int) + 1) = (k : Int) + 1 := IntWalk.i64_in _ (by have := HLL.out; omega)
      have j4 : IntKind.i64.wrap (kd : Int) = (kd : Int) := IntWalk.i64_in _ (by omega)
      have x5 := ((HKX.out _ _ _ hG).below hb4).cell 0 (v := .pointer (some ⟨b, 0, none⟩)) rfl
      have y5 := hX4.cell 0 (v := .int .u8 (kd : Int)) rfl
      rw [hW4] at x5 y5
      subst ha
      clear d0 d1 d2 d3 d4 d5 d6 d7 d8 d9 hst hre hlo hflt hszg hfl htk hkst hkdn hkb hbw hstb hfitk hra hrb hro hre' htor hsb hse hb4 hX4 hs4 hw4 hGG hbs4 hb5 hn5 hG hlt hk hW4 hW5
      go_wp2_with fail
      rw [← HW4.out, ← HW5.out]
      refine HNUM.out.mono ?_
      rintro e' w6 ⟨⟨y, rfl⟩, u6, hG6⟩
      have hG6 := HG5.out.trans hG6
      rw [numsB_one, u64_nat (by have := HKB.out; omega)] at hG6
      have y6 := (HKS.out _ _ _ hG6).cell 0 (v := .int .u8 (kd : Int)) rfl
      have HG6 := hid hG6
      have HPT := hid (parts_any kd w6 HKB.out)
      clear hG6 HW4 HW5 HNUM HG5 q0 q1 q2 q3 q4 q5 q6 q7 q8 q9 x4 x5 y5
      go_wp2_with fail
      refine HPT.out.mono ?_
      rintro e' w7 ⟨⟨S, rfl, hS⟩, hb7⟩
      have hG8 : WrG b u W4 (bs4 ++ putN kd) u6 (w7.iter S 0) := (HG6.out.below hb7).below (ext_alloc (ext_refl _) _)
      have hit : (w7.iter S 0).heap[w7.heap.size]? = some (.stringIter S 0) := World.iter_heap _ _ _
      have HG8 := hid hG8
      have HIT := hid hit
      have HD := hid (show W4.heap.size ≤ w7.heap.size by have := (HG6.out.below hb7).turn.size; omega)
      have HSS := hid hS
      have HSL : Hid (S.size = (lettersOf kd).length) := hid (by rw [← byt_len, hS])
      clear hG8 hit hS hb7 HPT HG6 y6
      go_wp2_with fail
      obtain ⟨D, hDD⟩ : ∃ D, D = w7.heap.size := ⟨_, rfl⟩
      obtain ⟨X, hXX⟩ : ∃ X, X = wr.heap.size := ⟨_, rfl⟩
      rw [← hDD] at HIT HD ⊢
      rw [← hXX] at HKS ⊢
      clear hDD hXX
      have HLM : Hid (∀ c ∈ lettersOf kd, c = 116 ∨ c = 97 ∨ c = 98 ∨ c = 111 ∨ c = 101) := hid (letters_mem kd)
      generalize lettersOf kd = ls at *
      go_loopw [7] (fun _ W => ∃ (j : Nat) (u' : Value) (W' : World), W' = W ∧ j ≤ ls.length ∧ WrG b u W4 (bs4 ++ putN kd ++ (ls.take j).flatMap (letOf (.mk skd sto sa sb sbody sels))) u' W' ∧ W'.heap[D]? = some (.stringIter S j)) (fun _ W => ls.length - W.iterPos D)
      case atStart => exact ⟨0, u6, _, rfl, Nat.zero_le _, by simpa using HG8.out, HIT.out⟩
      case round =>
        clear HG8 HIT
        obtain ⟨j, u7, W6, hWW, hj, hG7, hit⟩ := hrel
        subst hWW
        by_cases hlj : j < ls.length
        · have hjs : j < S.size := by rw [HSL.out]; exact hlj
          have hc : (S[j]'hjs).toNat = ls[j] := by
            have h1 : (byt S)[j]'(by rw [byt_len]; exact hjs) = ls[j] := by simp only [HSS.out]
            rw [← h1]; simp [byt]; rfl
          have hcm := HLM.out ls[j] (List.getElem_mem hlj)
          have hnx : ∀ ty, (Instr.next (.pointer (some ⟨D, 0, none⟩)) true ty).run Try.prog W6 = .ok (.tuple #[.bool true, .int .i64 j, .int .i32 (ls[j] : Nat)]) (W6.iterAt D S (j + 1)) := fun ty => by
            rw [run_next_ascii_at W6 D S j ty hit hjs (by rw [hc]; omega), hc]
          have hip : W6.iterPos D = j := by simp [World.iterPos, hit]
          have hG9 := hG7.iter hit HD.out (j + 1)
          have hit9 := iterAt_heap W6 D S j (j + 1) hit
          have htk := flat_take (f := letOf (.mk skd sto sa sb sbody sels)) ls j hlj
          have hfl := flat_le (f := letOf (.mk skd sto sa sb sbody sels)) ls j hlj
          generalize ls[j] = c at *
          obtain ⟨W9, hW9⟩ : ∃ W9, W9 = W6.iterAt D S (j + 1) := ⟨_, rfl⟩
          rw [← hW9] at hnx hG9 hit9
          have hX9 := HKS.out _ _ _ hG9
          have x9 := (HKX.out _ _ _ (HGG.out _ _ _ hG9)).cell 0 (v := .pointer (some ⟨b, 0, none⟩)) rfl
          have hl9 := HLOW.out _ _ _ (HGG.out _ _ _ hG9)
          obtain ⟨bs9, hbs9⟩ : ∃ bs9, bs9 = bs4 ++ putN kd ++ (ls.take j).flatMap (letOf (.mk skd sto sa sb sbody sels)) := ⟨_, rfl⟩
          rw [← hbs9] at hG9
          have hf9 : bs9.length + (letOf (.mk skd sto sa sb sbody sels) c).length ≤ 16000000 := by
            have h1 := HFK.out
            have h2 := congrArg List.length HSTB.out
            simp only [List.length_append] at h2
            rw [hbs9]; simp only [List.length_append]; omega
          have hb9 : b < W9.heap.size := by have := HBW.out; have := HS4.out; have := hG9.turn.size; omega
          have HLJ := hid hlj
          have HIP := hid hip
          have HG9 := hid hG9
          have HIT9 := hid hit9
          have HTKJ := hid htk
          have HX9 := hid hX9
          have HL9 := hid hl9
          have HBS9 := hid hbs9
          have HF9 := hid hf9
          have HB9 := hid hb9
          clear hj hlj hjs hc hip hG7 hit hG9 hit9 htk hfl hW9 hX9 hl9 hbs9 hf9 hb9
          rcases hcm with rfl | rfl | rfl | rfl | rfl
          · have y1 := HX9.out.cell 1 (v := .int .i64 sto) rfl
            have hlet : letOf (.mk skd sto sa sb sbody sels) 116 = numsB [sto] := by simp [letOf, letB, St.to, numsB]
            have HC : Hid (∀ W10, Below W9.heap.size W9 W10 → Blk W10 W9.heap.size (([sto].map (Value.int .i64 ·)).toArray) 3 → Calls Try.prog 18 #[.agg #[.pointer (some ⟨b, 0, none⟩)], .slice (some ⟨W9.heap.size, 0, none⟩) 1 1] W10 fun e W' => (∃ x, e = .returned x) ∧ ∃ v', WrG b u7 W10 (bs9 ++ numsB [sto]) v' W') :=
              hid (fun W10 hb10 hbl => wnum_any b W9.heap.size bs9 u7 [sto] 1 W10 (HG9.out.w.below hb10) hbl (by simp) (by have := HF9.out; omega) (by have := hb10.size; have := HB9.out; omega) ⟨by have := HB9.out; omega, fun g hg e => by have := (HG9.out.w.own.lt g hg).2; omega⟩)
            rw [hlet] at HTKJ
            clear hlet
            go_wp2_with fail
            refine (HC.out _ (ext_alloc (ext_refl _) _) (Blk.new _ _ _)).mono ?_
            rintro e' w10 ⟨⟨y, rfl⟩, u10, hG10⟩
            have hi10 := hG10.iterKept (HG9.out.w.below (ext_alloc (ext_refl _) _)) ((ext_alloc (ext_refl W9) _).block D (Array.getElem?_eq_some_iff.1 HIT9.out).1 |>.trans HIT9.out)
            have hG10 := (HG9.out.below (ext_alloc (ext_refl _) _)).trans hG10
            have HG10 := hid (And.intro hG10 hi10)
            clear hG10 hi10 x9 y1
            go_wp2_with fail
            go_roundw
            case rel => exact ⟨j + 1, u10, _, rfl, HLJ.out, by rw [HTKJ.out, ← List.append_assoc, ← HBS9.out]; exact HG10.out.1, HG10.out.2⟩
            case measure => have := HLJ.out; rw [show World.iterPos _ D = j + 1 from by simp [World.iterPos, HG10.out.2], HIP.out]; omega
          · have y1 := HX9.out.cell 2 (v := .int .u8 sa.op) rfl
            have y2 := HX9.out.cell 3 (v := .int .i64 sa.n) rfl
            have y3 := HX9.out.cell 4 (v := .slice pa sa.args.length ca) rfl
            have hlet : letOf (.mk skd sto sa sb sbody sels) 97 = exprB sa := by simp [letOf, letB, St.a, St.b]
            have HC := hid (wexpr_any (sizeE sa) sa b bs9 u7 _ _ _ W0 W9 (Nat.le_refl _) HG9.out.w H0.out HL9.out HB9.out HRA.out (by have := HF9.out; rw [hlet] at this; exact this))
            rw [hlet] at HTKJ
            clear hlet
            go_wp2_with fail
            refine HC.out.mono ?_
            rintro e' w10 ⟨⟨y, rfl⟩, u10, hG10⟩
            have hi10 := hG10.iterKept HG9.out.w HIT9.out
            have HG10 := hid (And.intro (HG9.out.trans hG10) hi10)
            clear hG10 hi10 x9 y1 y2 y3
            go_wp2_with fail
            go_roundw
            case rel => exact ⟨j + 1, u10, _, rfl, HLJ.out, by rw [HTKJ.out, ← List.append_assoc, ← HBS9.out]; exact HG10.out.1, HG10.out.2⟩
            case measure => have := HLJ.out; rw [show World.iterPos _ D = j + 1 from by simp [World.iterPos, HG10.out.2], HIP.out]; omega
          · have y1 := HX9.out.cell 5 (v := .int .u8 sb.op) rfl
            have y2 := HX9.out.cell 6 (v := .int .i64 sb.n) rfl
            have y3 := HX9.out.cell 7 (v := .slice pb sb.args.length cb) rfl
            have hlet : letOf (.mk skd sto sa sb sbody sels) 98 = exprB sb := by simp [letOf, letB, St.a, St.b]
            have HC := hid (wexpr_any (sizeE sb) sb b bs9 u7 _ _ _ W0 W9 (Nat.le_refl _) HG9.out.w H0.out HL9.out HB9.out HRB.out (by have := HF9.out; rw [hlet] at this; exact this))
            rw [hlet] at HTKJ
            clear hlet
            go_wp2_with fail
            refine HC.out.mono ?_
            rintro e' w10 ⟨⟨y, rfl⟩, u10, hG10⟩
            have hi10 := hG10.iterKept HG9.out.w HIT9.out
            have HG10 := hid (And.intro (HG9.out.trans hG10) hi10)
            clear hG10 hi10 x9 y1 y2 y3
            go_wp2_with fail
            go_roundw
            case rel => exact ⟨j + 1, u10, _, rfl, HLJ.out, by rw [HTKJ.out, ← List.append_assoc, ← HBS9.out]; exact HG10.out.1, HG10.out.2⟩
            case measure => have := HLJ.out; rw [show World.iterPos _ D = j + 1 from by simp [World.iterPos, HG10.out.2], HIP.out]; omega
          · have y1 := HX9.out.cell 8 (v := .slice po sbody.length co) rfl
            have hlet : letOf (.mk skd sto sa sb sbody sels) 111 = blockB sbody := by simp [letOf, letB, St.body, St.els]
            have HC := hid (IH.out (sizeT sbody) HSZ.out.1 sbody b bs9 u7 _ W0 W9 (Nat.le_refl _) HG9.out.w H0.out HL9.out HB9.out HRO.out HFO.out (by have := HF9.out; rw [hlet] at this; exact this))
            rw [hlet] at HTKJ
            clear hlet
            go_wp2_with fail
            refine HC.out.mono ?_
            rintro e' w10 ⟨⟨y, rfl⟩, u10, hG10⟩
            have hi10 := hG10.iterKept HG9.out.w HIT9.out
            have HG10 := hid (And.intro (HG9.out.trans hG10) hi10)
            clear hG10 hi10 x9 y1
            go_wp2_with fail
            go_roundw
            case rel => exact ⟨j + 1, u10, _, rfl, HLJ.out, by rw [HTKJ.out, ← List.append_assoc, ← HBS9.out]; exact HG10.out.1, HG10.out.2⟩
            case measure => have := HLJ.out; rw [show World.iterPos _ D = j + 1 from by simp [World.iterPos, HG10.out.2], HIP.out]; omega
          · have y1 := HX9.out.cell 9 (v := .slice pe sels.length ce) rfl
            have hlet : letOf (.mk skd sto sa sb sbody sels) 101 = blockB sels := by simp [letOf, letB, St.body, St.els]
            have HC := hid (IH.out (sizeT sels) HSZ.out.2 sels b bs9 u7 _ W0 W9 (Nat.le_refl _) HG9.out.w H0.out HL9.out HB9.out HRE.out HFE.out (by have := HF9.out; rw [hlet] at this; exact this))
            rw [hlet] at HTKJ
            clear hlet
            go_wp2_with fail
            refine HC.out.mono ?_
            rintro e' w10 ⟨⟨y, rfl⟩, u10, hG10⟩
            have hi10 := hG10.iterKept HG9.out.w HIT9.out
            have HG10 := hid (And.intro (HG9.out.trans hG10) hi10)
            clear hG10 hi10 x9 y1
            go_wp2_with fail
            go_roundw
            case rel => exact ⟨j + 1, u10, _, rfl, HLJ.out, by rw [HTKJ.out, ← List.append_assoc, ← HBS9.out]; exact HG10.out.1, HG10.out.2⟩
            case measure => have := HLJ.out; rw [show World.iterPos _ D = j + 1 from by simp [World.iterPos, HG10.out.2], HIP.out]; omega
        · obtain rfl : j = ls.length := by omega
          have hnx : ∀ ty, (Instr.next (.pointer (some ⟨D, 0, none⟩)) true ty).run Try.prog W6 = .ok (.tuple #[.bool false]) W6 := fun ty => run_next_end_at W6 D S _ ty hit (by rw [HSL.out]; omega)
          have hGN := HGG.out _ _ _ hG7
          rw [List.take_length] at hGN
          have HGN : Hid (WrG b v W1 (bs ++ putN l.length ++ stsB (l.take (k + 1))) u7 W6) := hid (by rw [HTK.out, HSTB.out, ← List.append_assoc, ← HBS4.out, ← List.append_assoc]; exact hGN)
          clear hG7 hit hGN
          go_wp2_with fail
          go_roundw
          case rel => exact ⟨k + 1, u7, _, rfl, HLT.out, by go_num, HGN.out⟩
          case measure => have := HLT.out; simp [Go.RowKit.intOf]; omega
    · obtain rfl : k = l.length := by omega
      have j1 : decide ((l.length : Int) < (l.length : Int)) = false := by rw [decide_eq_false_iff_not]; omega
      have HG := hid hG
      clear hG
      go_wp2_with fail
      refine bodyPost_ret (v := .tuple #[]) (by simp [results, Try.results20, go_sem]) rfl ?_
      rw [HQ.out]
      refine ⟨⟨_, rfl⟩, u, ?_⟩
      have := HG.out
      rw [List.take_length, List.append_assoc] at this
      exact this.ahead HB1.out
end Go.Proofs.Ytaklfjjkeebheaa
