/-
  The methods of a line, for abstract closures (printed by gen_line2.py).
-/
import Derived.Test.YtokkafiphchejaaDoorDeL3
namespace Go.Proofs.YtokkafiphchejaaDoor
set_option linter.unusedVariables false
set_option linter.unusedSimpArgs false
set_option linter.unusedVariables false
open Go Go.RowKit
section
variable {σ : Type} {K : Cl σ} {ks : List Nat} {At : σ → World → Prop} {Px : Int → Prop} {Ok : Nat → σ → Prop} {n i b : FuncId} {vn vi vb : Array Value}

set_option maxRecDepth 100000 in
set_option maxHeartbeats 4000000 in
theorem commit_any0 (hK : ClOk K ks At Px Ok n i b vn vi vb) (T V S : Int) (c : Cdr) (kind tx at_ x why : Int) (th : Nat) (s : σ) (L C : Nat) (W : World) (hL : Blk W L (lineA C ⟨kind, (th : Int), tx, at_, 0, x, why⟩ (clo n vn) (clo i vi) (clo b vb)) 83) (hC : Blk W C (cdrA T V S c) 74) (hA : At s W) (hLk : L ∉ ks) (hCk : C ∉ ks) (hLC : C ≠ L) (ho : Ok 1 s) (hp : Px 0) (hth : th < 6) :
    Calls Tryd.prog 61 #[.pointer (some ⟨L, 0, none⟩)] W (LineP ks At n i b vn vi vb L C W (let y := K.num s 0 1; if y.1 = 0 then (⟨kind, (th : Int), tx, at_, 0, x, why⟩, y.2) else (⟨kind, (th : Int), tx, at_, c.bumped th, x, why⟩, if c.bumped th = 0 then K.bad y.2 else y.2))) := by
  have HBL := hid hL
  have HBC := hid hC
  have HL := hid hLk
  have HC := hid hCk
  have HLC := hid hLC
  have HA := hid (hK.keep s W W.drew hA (fun _ _ => rfl))
  have HK := hid hK
  have hen := hK.en
  have hei := hK.ei
  have heb := hK.eb
  dsimp only
  have HA0 := hid hA
  have HN := hid (fun W' (h : At s W') => hK.num s 0 1 W' h ho hp ⟨by omega, by omega⟩)
  obtain ⟨y, hy⟩ : ∃ y, y = K.num s 0 1 := ⟨_, rfl⟩
  rw [← hy] at HN ⊢
  have HTH := hid hth
  have jt0 : (0 : Int) ≤ (th : Int) := by omega
  have jt6 : (th : Int) < 6 := by omega
  have d5 := hL.cell 5 (v := .int .i64 (0)) rfl
  have d8 := hL.cell 8 (v := .func (.func n) #[] vn) rfl
  clear hp hth hy
  clear hL hC hLk hCk hK hA hLC ho
  unfold LineP
  unfold clo
  go_enter Tryd.func61, Tryd.ntmps61
  go_wp2_with fail
  refine (HN.out W HA0.out).mono ?_
  rintro e' W1 ⟨rfl, ha1, ht1⟩
  have HB1 := hid (ht1.blk HL.out HBL.out)
  have HC1 := hid (ht1.blk HC.out HBC.out)
  have HA1 := hid ha1
  have HT1 := hid ht1
  clear ha1 ht1 HN HA HA0 HBL HBC
  by_cases hy0 : y.1 = 0
  · have g1 : (y.1 == 0) = true := by simp [hy0]
    have d5 := HB1.out.cell 5 (v := .int .i64 (0)) rfl
    have z5 := HB1.out.free 5
    have HY0 := hid hy0
    clear hy0
    go_wp2_with fail
    refine bodyPost_ret (v := .tuple #[]) (by simp [results, Tryd.results61, go_sem]) rfl ?_
    try rw [if_pos HY0.out]
    exact ⟨rfl, HK.out.keep _ _ _ HA1.out (fun k hk => Below.heap_setCell _ _ _ _ (fun e => HL.out (by have e' : k = L := e; rw [← e']; exact hk))), (HT1.out.mono (fun q hq => List.mem_cons_of_mem _ hq)).setCell (Or.inl (by simp)) _, HB1.out.set 5 _⟩
  · have g1 : (y.1 == 0) = false := by simp [hy0]
    have g2 : decide (y.1 = 0) = false := by simp [hy0]
    have HY0 := hid hy0
    clear hy0
    go_wp2_with fail
    apply wp_region_knownJ (fun qq => ([.pointer (some ⟨L, 0, none⟩), .pointer (some ⟨L, 0, none⟩), .pointer (some ⟨L, 0, none⟩), .pointer (some ⟨L, 0, none⟩), .pointer (some ⟨C, 0, none⟩), .pointer (some ⟨L, 0, none⟩), .pointer (some ⟨L, 0, none⟩), .pointer (some ⟨L, 1, none⟩), .pointer (some ⟨L, 2, none⟩), .int .i64 ((th : Int)), .pointer (some ⟨C, 0, none⟩), .pointer (some ⟨C, 11, none⟩), .pointer (some ⟨C, 11 + th, none⟩), .int .i64 (c.bumped th), .pointer (some ⟨L, 0, none⟩), .pointer (some ⟨L, 1, none⟩), .pointer (some ⟨L, 5, none⟩), undef] : List Value).getD qq undef) (LS W1 ⟨L, 5, none⟩ (.int .i64 (c.bumped th)) 18 17)
    focus (simp [putAll, dstOf, Act.put, List.getD]; rfl)
    case hm => kernel_rfl
    case hd => kernel_rfl
    case hb => kernel_rfl
    case hng => kernel_rfl
    case hsz => kernel_rfl
    case hext => exact fun l l' w h H => H.ext (by decide) (fun i hi => h i hi)
    case h0 => exact LS.start
    case hstep =>
      refine ⟨?_, ?_, ?_, ?_, ?_, ?_, ?_, ?_, ?_, ?_, ?_, ?_, ?_, ?_, ?_, ?_, ?_, ?_,  trivial⟩
      · refine ⟨(fun g b h => by cases h), fun l w' hl hdp hJ hg ρ h1 h2 h3 h4 h5 => ?_⟩
        have HJ := hid hJ
        clear hJ
        have f0 : ρ (.tmp 0) = .pointer (some ⟨L, 0, none⟩) := h5 0 (by kernel_rfl)
        have h0 := HJ.out.not (i := 0) (by decide) (by decide) hl
        clear h0 h4 h5 hg
        unfold OpY
        go_simp
        first | exact ⟨rfl, HJ.out.put (i := 0) (by decide) (by decide) hl (fun e => absurd e (by decide)) (fun e => absurd e (by decide))⟩ | exact ⟨Or.inr rfl, HJ.out.put (i := 0) (by decide) (by decide) hl (fun e => absurd e (by decide)) (fun e => absurd e (by decide))⟩
      · refine ⟨(fun g b h => by cases h), fun l w' hl hdp hJ hg ρ h1 h2 h3 h4 h5 => ?_⟩
        have HJ := hid hJ
        clear hJ
        have f0 : ρ (.tmp 0) = .pointer (some ⟨L, 0, none⟩) := h5 0 (by kernel_rfl)
        have h0 := HJ.out.not (i := 1) (by decide) (by decide) hl
        clear h0 h4 h5 hg
        unfold OpY
        go_simp
        first | exact ⟨rfl, HJ.out.put (i := 1) (by decide) (by decide) hl (fun e => absurd e (by decide)) (fun e => absurd e (by decide))⟩ | exact ⟨Or.inr rfl, HJ.out.put (i := 1) (by decide) (by decide) hl (fun e => absurd e (by decide)) (fun e => absurd e (by decide))⟩
      · refine ⟨(fun g b h => by cases h), fun l w' hl hdp hJ hg ρ h1 h2 h3 h4 h5 => ?_⟩
        have HJ := hid hJ
        clear hJ
        have f22 : ρ (.tmp 22) = .pointer (some ⟨L, 0, none⟩) := h4 1 22 (by kernel_rfl) (by kernel_rfl)
        have h0 := HJ.out.not (i := 2) (by decide) (by decide) hl
        clear h0 h4 h5 hg
        unfold OpY
        go_simp
        first | exact ⟨rfl, HJ.out.put (i := 2) (by decide) (by decide) hl (fun e => absurd e (by decide)) (fun e => absurd e (by decide))⟩ | exact ⟨Or.inr rfl, HJ.out.put (i := 2) (by decide) (by decide) hl (fun e => absurd e (by decide)) (fun e => absurd e (by decide))⟩
      · refine ⟨(fun g b h => by cases h), fun l w' hl hdp hJ hg ρ h1 h2 h3 h4 h5 => ?_⟩
        have HJ := hid hJ
        clear hJ
        have f23 : ρ (.tmp 23) = .pointer (some ⟨L, 0, none⟩) := h4 2 23 (by kernel_rfl) (by kernel_rfl)
        have h0 := HJ.out.not (i := 3) (by decide) (by decide) hl
        clear h0 h4 h5 hg
        unfold OpY
        go_simp
        first | exact ⟨rfl, HJ.out.put (i := 3) (by decide) (by decide) hl (fun e => absurd e (by decide)) (fun e => absurd e (by decide))⟩ | exact ⟨Or.inr rfl, HJ.out.put (i := 3) (by decide) (by decide) hl (fun e => absurd e (by decide)) (fun e => absurd e (by decide))⟩
      · refine ⟨(fun g b h => by cases h), fun l w' hl hdp hJ hg ρ h1 h2 h3 h4 h5 => ?_⟩
        have HJ := hid hJ
        clear hJ
        have f24 : ρ (.tmp 24) = .pointer (some ⟨L, 0, none⟩) := h4 3 24 (by kernel_rfl) (by kernel_rfl)
        have h0 := HJ.out.not (i := 4) (by decide) (by decide) hl
        have hw := HJ.out.pre h0
        subst hw
        have c : (W1.drew).cell? ⟨L, 0, none⟩ = some (.pointer (some ⟨C, 0, none⟩)) := ((HB1.out.below (ext_drew (ext_refl _)))).cell 0 rfl
        clear h0 h4 h5 hg
        unfold OpY
        go_simp
        first | exact ⟨rfl, HJ.out.put (i := 4) (by decide) (by decide) hl (fun e => absurd e (by decide)) (fun e => absurd e (by decide))⟩ | exact ⟨Or.inr rfl, HJ.out.put (i := 4) (by decide) (by decide) hl (fun e => absurd e (by decide)) (fun e => absurd e (by decide))⟩
      · refine ⟨(fun g b h => by cases h), fun l w' hl hdp hJ hg ρ h1 h2 h3 h4 h5 => ?_⟩
        have HJ := hid hJ
        clear hJ
        have f0 : ρ (.tmp 0) = .pointer (some ⟨L, 0, none⟩) := h5 0 (by kernel_rfl)
        have h0 := HJ.out.not (i := 5) (by decide) (by decide) hl
        clear h0 h4 h5 hg
        unfold OpY
        go_simp
        first | exact ⟨rfl, HJ.out.put (i := 5) (by decide) (by decide) hl (fun e => absurd e (by decide)) (fun e => absurd e (by decide))⟩ | exact ⟨Or.inr rfl, HJ.out.put (i := 5) (by decide) (by decide) hl (fun e => absurd e (by decide)) (fun e => absurd e (by decide))⟩
      · refine ⟨(fun g b h => by cases h), fun l w' hl hdp hJ hg ρ h1 h2 h3 h4 h5 => ?_⟩
        have HJ := hid hJ
        clear hJ
        have f26 : ρ (.tmp 26) = .pointer (some ⟨L, 0, none⟩) := h4 5 26 (by kernel_rfl) (by kernel_rfl)
        have h0 := HJ.out.not (i := 6) (by decide) (by decide) hl
        clear h0 h4 h5 hg
        unfold OpY
        go_simp
        first | exact ⟨rfl, HJ.out.put (i := 6) (by decide) (by decide) hl (fun e => absurd e (by decide)) (fun e => absurd e (by decide))⟩ | exact ⟨Or.inr rfl, HJ.out.put (i := 6) (by decide) (by decide) hl (fun e => absurd e (by decide)) (fun e => absurd e (by decide))⟩
      · refine ⟨(fun g b h => by cases h), fun l w' hl hdp hJ hg ρ h1 h2 h3 h4 h5 => ?_⟩
        have HJ := hid hJ
        clear hJ
        have f27 : ρ (.tmp 27) = .pointer (some ⟨L, 0, none⟩) := h4 6 27 (by kernel_rfl) (by kernel_rfl)
        have h0 := HJ.out.not (i := 7) (by decide) (by decide) hl
        clear h0 h4 h5 hg
        unfold OpY
        go_simp
        first | exact ⟨rfl, HJ.out.put (i := 7) (by decide) (by decide) hl (fun e => absurd e (by decide)) (fun e => absurd e (by decide))⟩ | exact ⟨Or.inr rfl, HJ.out.put (i := 7) (by decide) (by decide) hl (fun e => absurd e (by decide)) (fun e => absurd e (by decide))⟩
      · refine ⟨(fun g b h => by cases h), fun l w' hl hdp hJ hg ρ h1 h2 h3 h4 h5 => ?_⟩
        have HJ := hid hJ
        clear hJ
        have f28 : ρ (.tmp 28) = .pointer (some ⟨L, 1, none⟩) := h4 7 28 (by kernel_rfl) (by kernel_rfl)
        have h0 := HJ.out.not (i := 8) (by decide) (by decide) hl
        clear h0 h4 h5 hg
        unfold OpY
        go_simp
        first | exact ⟨rfl, HJ.out.put (i := 8) (by decide) (by decide) hl (fun e => absurd e (by decide)) (fun e => absurd e (by decide))⟩ | exact ⟨Or.inr rfl, HJ.out.put (i := 8) (by decide) (by decide) hl (fun e => absurd e (by decide)) (fun e => absurd e (by decide))⟩
      · refine ⟨(fun g b h => by cases h), fun l w' hl hdp hJ hg ρ h1 h2 h3 h4 h5 => ?_⟩
        have HJ := hid hJ
        clear hJ
        have f29 : ρ (.tmp 29) = .pointer (some ⟨L, 2, none⟩) := h4 8 29 (by kernel_rfl) (by kernel_rfl)
        have h0 := HJ.out.not (i := 9) (by decide) (by decide) hl
        have hw := HJ.out.pre h0
        subst hw
        have c : (W1.drew).cell? ⟨L, 2, none⟩ = some (.int .i64 ((th : Int))) := ((HB1.out.below (ext_drew (ext_refl _)))).cell 2 rfl
        clear h0 h4 h5 hg
        unfold OpY
        go_simp
        first | exact ⟨rfl, HJ.out.put (i := 9) (by decide) (by decide) hl (fun e => absurd e (by decide)) (fun e => absurd e (by decide))⟩ | exact ⟨Or.inr rfl, HJ.out.put (i := 9) (by decide) (by decide) hl (fun e => absurd e (by decide)) (fun e => absurd e (by decide))⟩
      · refine ⟨(fun g b h => by cases h), fun l w' hl hdp hJ hg ρ h1 h2 h3 h4 h5 => ?_⟩
        have HJ := hid hJ
        clear hJ
        have f25 : ρ (.tmp 25) = .pointer (some ⟨C, 0, none⟩) := h4 4 25 (by kernel_rfl) (by kernel_rfl)
        have h0 := HJ.out.not (i := 10) (by decide) (by decide) hl
        clear h0 h4 h5 hg
        unfold OpY
        go_simp
        first | exact ⟨rfl, HJ.out.put (i := 10) (by decide) (by decide) hl (fun e => absurd e (by decide)) (fun e => absurd e (by decide))⟩ | exact ⟨Or.inr rfl, HJ.out.put (i := 10) (by decide) (by decide) hl (fun e => absurd e (by decide)) (fun e => absurd e (by decide))⟩
      · refine ⟨(fun g b h => by cases h), fun l w' hl hdp hJ hg ρ h1 h2 h3 h4 h5 => ?_⟩
        have HJ := hid hJ
        clear hJ
        have f31 : ρ (.tmp 31) = .pointer (some ⟨C, 0, none⟩) := h4 10 31 (by kernel_rfl) (by kernel_rfl)
        have h0 := HJ.out.not (i := 11) (by decide) (by decide) hl
        clear h0 h4 h5 hg
        unfold OpY
        go_simp
        first | exact ⟨rfl, HJ.out.put (i := 11) (by decide) (by decide) hl (fun e => absurd e (by decide)) (fun e => absurd e (by decide))⟩ | exact ⟨Or.inr rfl, HJ.out.put (i := 11) (by decide) (by decide) hl (fun e => absurd e (by decide)) (fun e => absurd e (by decide))⟩
      · refine ⟨(fun g b h => by cases h), fun l w' hl hdp hJ hg ρ h1 h2 h3 h4 h5 => ?_⟩
        have HJ := hid hJ
        clear hJ
        have f32 : ρ (.tmp 32) = .pointer (some ⟨C, 11, none⟩) := h4 11 32 (by kernel_rfl) (by kernel_rfl)
        have f30 : ρ (.tmp 30) = .int .i64 ((th : Int)) := h4 9 30 (by kernel_rfl) (by kernel_rfl)
        have h0 := HJ.out.not (i := 12) (by decide) (by decide) hl
        clear h0 h4 h5 hg
        unfold OpY
        go_simp
        first | exact ⟨rfl, HJ.out.put (i := 12) (by decide) (by decide) hl (fun e => absurd e (by decide)) (fun e => absurd e (by decide))⟩ | exact ⟨Or.inr rfl, HJ.out.put (i := 12) (by decide) (by decide) hl (fun e => absurd e (by decide)) (fun e => absurd e (by decide))⟩
      · refine ⟨(fun g b h => by cases h), fun l w' hl hdp hJ hg ρ h1 h2 h3 h4 h5 => ?_⟩
        have HJ := hid hJ
        clear hJ
        have f33 : ρ (.tmp 33) = .pointer (some ⟨C, 11 + th, none⟩) := h4 12 33 (by kernel_rfl) (by kernel_rfl)
        have h0 := HJ.out.not (i := 13) (by decide) (by decide) hl
        have hw := HJ.out.pre h0
        subst hw
        have c := (HC1.out.below (ext_drew (ext_refl _))).cell (11 + th) (cdr_bumped T V S c HTH.out)
        clear h0 h4 h5 hg
        unfold OpY
        go_simp
        first | exact ⟨rfl, HJ.out.put (i := 13) (by decide) (by decide) hl (fun e => absurd e (by decide)) (fun e => absurd e (by decide))⟩ | exact ⟨Or.inr rfl, HJ.out.put (i := 13) (by decide) (by decide) hl (fun e => absurd e (by decide)) (fun e => absurd e (by decide))⟩
      · refine ⟨(fun g b h => by cases h), fun l w' hl hdp hJ hg ρ h1 h2 h3 h4 h5 => ?_⟩
        have HJ := hid hJ
        clear hJ
        have f21 : ρ (.tmp 21) = .pointer (some ⟨L, 0, none⟩) := h4 0 21 (by kernel_rfl) (by kernel_rfl)
        have h0 := HJ.out.not (i := 14) (by decide) (by decide) hl
        clear h0 h4 h5 hg
        unfold OpY
        go_simp
        first | exact ⟨rfl, HJ.out.put (i := 14) (by decide) (by decide) hl (fun e => absurd e (by decide)) (fun e => absurd e (by decide))⟩ | exact ⟨Or.inr rfl, HJ.out.put (i := 14) (by decide) (by decide) hl (fun e => absurd e (by decide)) (fun e => absurd e (by decide))⟩
      · refine ⟨(fun g b h => by cases h), fun l w' hl hdp hJ hg ρ h1 h2 h3 h4 h5 => ?_⟩
        have HJ := hid hJ
        clear hJ
        have f35 : ρ (.tmp 35) = .pointer (some ⟨L, 0, none⟩) := h4 14 35 (by kernel_rfl) (by kernel_rfl)
        have h0 := HJ.out.not (i := 15) (by decide) (by decide) hl
        clear h0 h4 h5 hg
        unfold OpY
        go_simp
        first | exact ⟨rfl, HJ.out.put (i := 15) (by decide) (by decide) hl (fun e => absurd e (by decide)) (fun _ => hdp 14 (by kernel_rfl))⟩ | exact ⟨Or.inr rfl, HJ.out.put (i := 15) (by decide) (by decide) hl (fun e => absurd e (by decide)) (fun _ => hdp 14 (by kernel_rfl))⟩
      · refine ⟨(fun g b h => by cases h), fun l w' hl hdp hJ hg ρ h1 h2 h3 h4 h5 => ?_⟩
        have HJ := hid hJ
        clear hJ
        have f36 : ρ (.tmp 36) = .pointer (some ⟨L, 1, none⟩) := h4 15 36 (by kernel_rfl) (by kernel_rfl)
        have h0 := HJ.out.not (i := 16) (by decide) (by decide) hl
        clear h0 h4 h5 hg
        unfold OpY
        go_simp
        first | exact ⟨rfl, HJ.out.put (i := 16) (by decide) (by decide) hl (fun _ => hdp 15 (by kernel_rfl)) (fun e => absurd e (by decide))⟩ | exact ⟨Or.inr rfl, HJ.out.put (i := 16) (by decide) (by decide) hl (fun _ => hdp 15 (by kernel_rfl)) (fun e => absurd e (by decide))⟩
      · refine ⟨(fun g b h => by cases h), fun l w' hl hdp hJ hg ρ h1 h2 h3 h4 h5 => ?_⟩
        have HJ := hid hJ
        clear hJ
        have f37 : ρ (.tmp 37) = .pointer (some ⟨L, 5, none⟩) := h4 16 37 (by kernel_rfl) (by kernel_rfl)
        have f34 : ρ (.tmp 34) = .int .i64 (c.bumped th) := h4 13 34 (by kernel_rfl) (by kernel_rfl)
        have h15 := hdp 16 (by kernel_rfl)
        have h14 := HJ.out.d1 h15
        have h13 := HJ.out.d2 h14
        have hall : ∀ q, q < 18 → q ≠ 17 → l q = true := all_of (si := 17) h13 h14 (by kernel_rfl) hdp
        obtain ⟨hw, hq⟩ := HJ.out.store (by decide) hl hall
        subst hw
        have HQ := hid hq
        have c := (HB1.out.below (ext_drew (ext_refl _))).cell 5 rfl
        have z := (HB1.out.below (ext_drew (ext_refl _))).free 5
        clear hall hq h13 h14 h15 h4 h5 hg
        unfold OpY
        go_simp
        exact HQ.out
    case hdone =>
      intro W2 hJ
      have hw := hJ.fin rfl
      clear hJ
      subst hw
      have HA2 := hid (HK.out.keep _ W1 (W1.drew.setCell ⟨L, 5, none⟩ (.int .i64 (c.bumped th))) HA1.out (fun k hk => Below.heap_setCell _ _ _ _ (fun e => HL.out (by have e' : k = L := e; rw [← e']; exact hk))))
      have HT2 := hid (((HT1.out.drew).mono (fun q hq => List.mem_cons_of_mem L hq)).setCell (p := ⟨L, 5, none⟩) (Or.inl (by simp)) (.int .i64 (c.bumped th)))
      have hb2 := (HB1.out.below (ext_drew (ext_refl _))).set 5 (.int .i64 (c.bumped th))
      have hb2' : Blk _ L (lineA C ⟨kind, (th : Int), tx, at_, c.bumped th, x, why⟩ (clo n vn) (clo i vi) (clo b vb)) 83 := hb2
      have HB2 := hid hb2'
      clear hb2 hb2' HA1 HT1 HB1 HC1
      generalize (W1.drew.setCell ⟨L, 5, none⟩ (.int .i64 (c.bumped th))) = W2 at *
      have d5 := HB2.out.cell 5 (v := .int .i64 (c.bumped th)) rfl
      have d10 := HB2.out.cell 10 (v := .func (.func b) #[] vb) rfl
      by_cases hb0 : c.bumped th = 0
      · have q1 : (c.bumped th == 0) = true := by simp [hb0]
        have HB0 := hid hb0
        clear hb0
        go_wp2_with fail
        refine (HK.out.bad _ _ HA2.out).mono ?_
        rintro e' W3 ⟨⟨rr, rfl⟩, ha3, ht3⟩
        have HA3 := hid ha3
        have HT3 := hid (HT2.out.trans (ht3.mono (fun q hq => List.mem_cons_of_mem L hq)))
        have HB3 := hid (ht3.blk HL.out HB2.out)
        clear ha3 ht3 d5 d10
        go_wp2_with fail
        go_end0
        try rw [if_neg HY0.out]
        try rw [if_pos HB0.out]
        try rw [HB0.out] at HB3
        first | exact ⟨rfl, HA3.out, HT3.out, HB3.out⟩ | (have h := HB0.out; simp only [h] at HB3 ⊢; exact ⟨rfl, HA3.out, HT3.out, HB3.out⟩)
      · have q1 : (c.bumped th == 0) = false := by simp [hb0]
        have q2 : decide (c.bumped th = 0) = false := by simp [hb0]
        have HB0 := hid hb0
        clear hb0
        go_wp2_with fail
        go_end0
        try rw [if_neg HY0.out]
        try rw [if_neg HB0.out]
        exact ⟨rfl, HA2.out, HT2.out, HB2.out⟩

set_option maxRecDepth 100000 in
set_option maxHeartbeats 4000000 in
theorem commit_any1 (hK : ClOk K ks At Px Ok n i b vn vi vb) (T V S : Int) (c : Cdr) (kind tx at_ x why : Int) (th : Nat) (s : σ) (L C : Nat) (W : World) (hL : Blk W L (lineA C ⟨kind, (th : Int), tx, at_, 1, x, why⟩ (clo n vn) (clo i vi) (clo b vb)) 83) (hC : Blk W C (cdrA T V S c) 74) (hA : At s W) (hLk : L ∉ ks) (hCk : C ∉ ks) (hLC : C ≠ L) (ho : Ok 1 s) (hp : Px 1) (hth : th < 6) :
    Calls Tryd.prog 61 #[.pointer (some ⟨L, 0, none⟩)] W (LineP ks At n i b vn vi vb L C W (let y := K.num s 1 1; if y.1 = 0 then (⟨kind, (th : Int), tx, at_, 0, x, why⟩, y.2) else (⟨kind, (th : Int), tx, at_, c.bumped th, x, why⟩, if c.bumped th = 0 then K.bad y.2 else y.2))) := by
  have HBL := hid hL
  have HBC := hid hC
  have HL := hid hLk
  have HC := hid hCk
  have HLC := hid hLC
  have HA := hid (hK.keep s W W.drew hA (fun _ _ => rfl))
  have HK := hid hK
  have hen := hK.en
  have hei := hK.ei
  have heb := hK.eb
  dsimp only
  have HA0 := hid hA
  have HN := hid (fun W' (h : At s W') => hK.num s 1 1 W' h ho hp ⟨by omega, by omega⟩)
  obtain ⟨y, hy⟩ : ∃ y, y = K.num s 1 1 := ⟨_, rfl⟩
  rw [← hy] at HN ⊢
  have HTH := hid hth
  have jt0 : (0 : Int) ≤ (th : Int) := by omega
  have jt6 : (th : Int) < 6 := by omega
  have d5 := hL.cell 5 (v := .int .i64 (1)) rfl
  have d8 := hL.cell 8 (v := .func (.func n) #[] vn) rfl
  clear hp hth hy
  clear hL hC hLk hCk hK hA hLC ho
  unfold LineP
  unfold clo
  go_enter Tryd.func61, Tryd.ntmps61
  go_wp2_with fail
  refine (HN.out W HA0.out).mono ?_
  rintro e' W1 ⟨rfl, ha1, ht1⟩
  have HB1 := hid (ht1.blk HL.out HBL.out)
  have HC1 := hid (ht1.blk HC.out HBC.out)
  have HA1 := hid ha1
  have HT1 := hid ht1
  clear ha1 ht1 HN HA HA0 HBL HBC
  by_cases hy0 : y.1 = 0
  · have g1 : (y.1 == 0) = true := by simp [hy0]
    have d5 := HB1.out.cell 5 (v := .int .i64 (1)) rfl
    have z5 := HB1.out.free 5
    have HY0 := hid hy0
    clear hy0
    go_wp2_with fail
    refine bodyPost_ret (v := .tuple #[]) (by simp [results, Tryd.results61, go_sem]) rfl ?_
    try rw [if_pos HY0.out]
    exact ⟨rfl, HK.out.keep _ _ _ HA1.out (fun k hk => Below.heap_setCell _ _ _ _ (fun e => HL.out (by have e' : k = L := e; rw [← e']; exact hk))), (HT1.out.mono (fun q hq => List.mem_cons_of_mem _ hq)).setCell (Or.inl (by simp)) _, HB1.out.set 5 _⟩
  · have g1 : (y.1 == 0) = false := by simp [hy0]
    have g2 : decide (y.1 = 0) = false := by simp [hy0]
    have HY0 := hid hy0
    clear hy0
    go_wp2_with fail
    apply wp_region_knownJ (fun qq => ([.pointer (some ⟨L, 0, none⟩), .pointer (some ⟨L, 0, none⟩), .pointer (some ⟨L, 0, none⟩), .pointer (some ⟨L, 0, none⟩), .pointer (some ⟨C, 0, none⟩), .pointer (some ⟨L, 0, none⟩), .pointer (some ⟨L, 0, none⟩), .pointer (some ⟨L, 1, none⟩), .pointer (some ⟨L, 2, none⟩), .int .i64 ((th : Int)), .pointer (some ⟨C, 0, none⟩), .pointer (some ⟨C, 11, none⟩), .pointer (some ⟨C, 11 + th, none⟩), .int .i64 (c.bumped th), .pointer (some ⟨L, 0, none⟩), .pointer (some ⟨L, 1, none⟩), .pointer (some ⟨L, 5, none⟩), undef] : List Value).getD qq undef) (LS W1 ⟨L, 5, none⟩ (.int .i64 (c.bumped th)) 18 17)
    focus (simp [putAll, dstOf, Act.put, List.getD]; rfl)
    case hm => kernel_rfl
    case hd => kernel_rfl
    case hb => kernel_rfl
    case hng => kernel_rfl
    case hsz => kernel_rfl
    case hext => exact fun l l' w h H => H.ext (by decide) (fun i hi => h i hi)
    case h0 => exact LS.start
    case hstep =>
      refine ⟨?_, ?_, ?_, ?_, ?_, ?_, ?_, ?_, ?_, ?_, ?_, ?_, ?_, ?_, ?_, ?_, ?_, ?_,  trivial⟩
      · refine ⟨(fun g b h => by cases h), fun l w' hl hdp hJ hg ρ h1 h2 h3 h4 h5 => ?_⟩
        have HJ := hid hJ
        clear hJ
        have f0 : ρ (.tmp 0) = .pointer (some ⟨L, 0, none⟩) := h5 0 (by kernel_rfl)
        have h0 := HJ.out.not (i := 0) (by decide) (by decide) hl
        clear h0 h4 h5 hg
        unfold OpY
        go_simp
        first | exact ⟨rfl, HJ.out.put (i := 0) (by decide) (by decide) hl (fun e => absurd e (by decide)) (fun e => absurd e (by decide))⟩ | exact ⟨Or.inr rfl, HJ.out.put (i := 0) (by decide) (by decide) hl (fun e => absurd e (by decide)) (fun e => absurd e (by decide))⟩
      · refine ⟨(fun g b h => by cases h), fun l w' hl hdp hJ hg ρ h1 h2 h3 h4 h5 => ?_⟩
        have HJ := hid hJ
        clear hJ
        have f0 : ρ (.tmp 0) = .pointer (some ⟨L, 0, none⟩) := h5 0 (by kernel_rfl)
        have h0 := HJ.out.not (i := 1) (by decide) (by decide) hl
        clear h0 h4 h5 hg
        unfold OpY
        go_simp
        first | exact ⟨rfl, HJ.out.put (i := 1) (by decide) (by decide) hl (fun e => absurd e (by decide)) (fun e => absurd e (by decide))⟩ | exact ⟨Or.inr rfl, HJ.out.put (i := 1) (by decide) (by decide) hl (fun e => absurd e (by decide)) (fun e => absurd e (by decide))⟩
      · refine ⟨(fun g b h => by cases h), fun l w' hl hdp hJ hg ρ h1 h2 h3 h4 h5 => ?_⟩
        have HJ := hid hJ
        clear hJ
        have f22 : ρ (.tmp 22) = .pointer (some ⟨L, 0, none⟩) := h4 1 22 (by kernel_rfl) (by kernel_rfl)
        have h0 := HJ.out.not (i := 2) (by decide) (by decide) hl
        clear h0 h4 h5 hg
        unfold OpY
        go_simp
        first | exact ⟨rfl, HJ.out.put (i := 2) (by decide) (by decide) hl (fun e => absurd e (by decide)) (fun e => absurd e (by decide))⟩ | exact ⟨Or.inr rfl, HJ.out.put (i := 2) (by decide) (by decide) hl (fun e => absurd e (by decide)) (fun e => absurd e (by decide))⟩
      · refine ⟨(fun g b h => by cases h), fun l w' hl hdp hJ hg ρ h1 h2 h3 h4 h5 => ?_⟩
        have HJ := hid hJ
        clear hJ
        have f23 : ρ (.tmp 23) = .pointer (some ⟨L, 0, none⟩) := h4 2 23 (by kernel_rfl) (by kernel_rfl)
        have h0 := HJ.out.not (i := 3) (by decide) (by decide) hl
        clear h0 h4 h5 hg
        unfold OpY
        go_simp
        first | exact ⟨rfl, HJ.out.put (i := 3) (by decide) (by decide) hl (fun e => absurd e (by decide)) (fun e => absurd e (by decide))⟩ | exact ⟨Or.inr rfl, HJ.out.put (i := 3) (by decide) (by decide) hl (fun e => absurd e (by decide)) (fun e => absurd e (by decide))⟩
      · refine ⟨(fun g b h => by cases h), fun l w' hl hdp hJ hg ρ h1 h2 h3 h4 h5 => ?_⟩
        have HJ := hid hJ
        clear hJ
        have f24 : ρ (.tmp 24) = .pointer (some ⟨L, 0, none⟩) := h4 3 24 (by kernel_rfl) (by kernel_rfl)
        have h0 := HJ.out.not (i := 4) (by decide) (by decide) hl
        have hw := HJ.out.pre h0
        subst hw
        have c : (W1.drew).cell? ⟨L, 0, none⟩ = some (.pointer (some ⟨C, 0, none⟩)) := ((HB1.out.below (ext_drew (ext_refl _)))).cell 0 rfl
        clear h0 h4 h5 hg
        unfold OpY
        go_simp
        first | exact ⟨rfl, HJ.out.put (i := 4) (by decide) (by decide) hl (fun e => absurd e (by decide)) (fun e => absurd e (by decide))⟩ | exact ⟨Or.inr rfl, HJ.out.put (i := 4) (by decide) (by decide) hl (fun e => absurd e (by decide)) (fun e => absurd e (by decide))⟩
      · refine ⟨(fun g b h => by cases h), fun l w' hl hdp hJ hg ρ h1 h2 h3 h4 h5 => ?_⟩
        have HJ := hid hJ
        clear hJ
        have f0 : ρ (.tmp 0) = .pointer (some ⟨L, 0, none⟩) := h5 0 (by kernel_rfl)
        have h0 := HJ.out.not (i := 5) (by decide) (by decide) hl
        clear h0 h4 h5 hg
        unfold OpY
        go_simp
        first | exact ⟨rfl, HJ.out.put (i := 5) (by decide) (by decide) hl (fun e => absurd e (by decide)) (fun e => absurd e (by decide))⟩ | exact ⟨Or.inr rfl, HJ.out.put (i := 5) (by decide) (by decide) hl (fun e => absurd e (by decide)) (fun e => absurd e (by decide))⟩
      · refine ⟨(fun g b h => by cases h), fun l w' hl hdp hJ hg ρ h1 h2 h3 h4 h5 => ?_⟩
        have HJ := hid hJ
        clear hJ
        have f26 : ρ (.tmp 26) = .pointer (some ⟨L, 0, none⟩) := h4 5 26 (by kernel_rfl) (by kernel_rfl)
        have h0 := HJ.out.not (i := 6) (by decide) (by decide) hl
        clear h0 h4 h5 hg
        unfold OpY
        go_simp
        first | exact ⟨rfl, HJ.out.put (i := 6) (by decide) (by decide) hl (fun e => absurd e (by decide)) (fun e => absurd e (by decide))⟩ | exact ⟨Or.inr rfl, HJ.out.put (i := 6) (by decide) (by decide) hl (fun e => absurd e (by decide)) (fun e => absurd e (by decide))⟩
      · refine ⟨(fun g b h => by cases h), fun l w' hl hdp hJ hg ρ h1 h2 h3 h4 h5 => ?_⟩
        have HJ := hid hJ
        clear hJ
        have f27 : ρ (.tmp 27) = .pointer (some ⟨L, 0, none⟩) := h4 6 27 (by kernel_rfl) (by kernel_rfl)
        have h0 := HJ.out.not (i := 7) (by decide) (by decide) hl
        clear h0 h4 h5 hg
        unfold OpY
        go_simp
        first | exact ⟨rfl, HJ.out.put (i := 7) (by decide) (by decide) hl (fun e => absurd e (by decide)) (fun e => absurd e (by decide))⟩ | exact ⟨Or.inr rfl, HJ.out.put (i := 7) (by decide) (by decide) hl (fun e => absurd e (by decide)) (fun e => absurd e (by decide))⟩
      · refine ⟨(fun g b h => by cases h), fun l w' hl hdp hJ hg ρ h1 h2 h3 h4 h5 => ?_⟩
        have HJ := hid hJ
        clear hJ
        have f28 : ρ (.tmp 28) = .pointer (some ⟨L, 1, none⟩) := h4 7 28 (by kernel_rfl) (by kernel_rfl)
        have h0 := HJ.out.not (i := 8) (by decide) (by decide) hl
        clear h0 h4 h5 hg
        unfold OpY
        go_simp
        first | exact ⟨rfl, HJ.out.put (i := 8) (by decide) (by decide) hl (fun e => absurd e (by decide)) (fun e => absurd e (by decide))⟩ | exact ⟨Or.inr rfl, HJ.out.put (i := 8) (by decide) (by decide) hl (fun e => absurd e (by decide)) (fun e => absurd e (by decide))⟩
      · refine ⟨(fun g b h => by cases h), fun l w' hl hdp hJ hg ρ h1 h2 h3 h4 h5 => ?_⟩
        have HJ := hid hJ
        clear hJ
        have f29 : ρ (.tmp 29) = .pointer (some ⟨L, 2, none⟩) := h4 8 29 (by kernel_rfl) (by kernel_rfl)
        have h0 := HJ.out.not (i := 9) (by decide) (by decide) hl
        have hw := HJ.out.pre h0
        subst hw
        have c : (W1.drew).cell? ⟨L, 2, none⟩ = some (.int .i64 ((th : Int))) := ((HB1.out.below (ext_drew (ext_refl _)))).cell 2 rfl
        clear h0 h4 h5 hg
        unfold OpY
        go_simp
        first | exact ⟨rfl, HJ.out.put (i := 9) (by decide) (by decide) hl (fun e => absurd e (by decide)) (fun e => absurd e (by decide))⟩ | exact ⟨Or.inr rfl, HJ.out.put (i := 9) (by decide) (by decide) hl (fun e => absurd e (by decide)) (fun e => absurd e (by decide))⟩
      · refine ⟨(fun g b h => by cases h), fun l w' hl hdp hJ hg ρ h1 h2 h3 h4 h5 => ?_⟩
        have HJ := hid hJ
        clear hJ
        have f25 : ρ (.tmp 25) = .pointer (some ⟨C, 0, none⟩) := h4 4 25 (by kernel_rfl) (by kernel_rfl)
        have h0 := HJ.out.not (i := 10) (by decide) (by decide) hl
        clear h0 h4 h5 hg
        unfold OpY
        go_simp
        first | exact ⟨rfl, HJ.out.put (i := 10) (by decide) (by decide) hl (fun e => absurd e (by decide)) (fun e => absurd e (by decide))⟩ | exact ⟨Or.inr rfl, HJ.out.put (i := 10) (by decide) (by decide) hl (fun e => absurd e (by decide)) (fun e => absurd e (by decide))⟩
      · refine ⟨(fun g b h => by cases h), fun l w' hl hdp hJ hg ρ h1 h2 h3 h4 h5 => ?_⟩
        have HJ := hid hJ
        clear hJ
        have f31 : ρ (.tmp 31) = .pointer (some ⟨C, 0, none⟩) := h4 10 31 (by kernel_rfl) (by kernel_rfl)
        have h0 := HJ.out.not (i := 11) (by decide) (by decide) hl
        clear h0 h4 h5 hg
        unfold OpY
        go_simp
        first | exact ⟨rfl, HJ.out.put (i := 11) (by decide) (by decide) hl (fun e => absurd e (by decide)) (fun e => absurd e (by decide))⟩ | exact ⟨Or.inr rfl, HJ.out.put (i := 11) (by decide) (by decide) hl (fun e => absurd e (by decide)) (fun e => absurd e (by decide))⟩
      · refine ⟨(fun g b h => by cases h), fun l w' hl hdp hJ hg ρ h1 h2 h3 h4 h5 => ?_⟩
        have HJ := hid hJ
        clear hJ
        have f32 : ρ (.tmp 32) = .pointer (some ⟨C, 11, none⟩) := h4 11 32 (by kernel_rfl) (by kernel_rfl)
        have f30 : ρ (.tmp 30) = .int .i64 ((th : Int)) := h4 9 30 (by kernel_rfl) (by kernel_rfl)
        have h0 := HJ.out.not (i := 12) (by decide) (by decide) hl
        clear h0 h4 h5 hg
        unfold OpY
        go_simp
        first | exact ⟨rfl, HJ.out.put (i := 12) (by decide) (by decide) hl (fun e => absurd e (by decide)) (fun e => absurd e (by decide))⟩ | exact ⟨Or.inr rfl, HJ.out.put (i := 12) (by decide) (by decide) hl (fun e => absurd e (by decide)) (fun e => absurd e (by decide))⟩
      · refine ⟨(fun g b h => by cases h), fun l w' hl hdp hJ hg ρ h1 h2 h3 h4 h5 => ?_⟩
        have HJ := hid hJ
        clear hJ
        have f33 : ρ (.tmp 33) = .pointer (some ⟨C, 11 + th, none⟩) := h4 12 33 (by kernel_rfl) (by kernel_rfl)
        have h0 := HJ.out.not (i := 13) (by decide) (by decide) hl
        have hw := HJ.out.pre h0
        subst hw
        have c := (HC1.out.below (ext_drew (ext_refl _))).cell (11 + th) (cdr_bumped T V S c HTH.out)
        clear h0 h4 h5 hg
        unfold OpY
        go_simp
        first | exact ⟨rfl, HJ.out.put (i := 13) (by decide) (by decide) hl (fun e => absurd e (by decide)) (fun e => absurd e (by decide))⟩ | exact ⟨Or.inr rfl, HJ.out.put (i := 13) (by decide) (by decide) hl (fun e => absurd e (by decide)) (fun e => absurd e (by decide))⟩
      · refine ⟨(fun g b h => by cases h), fun l w' hl hdp hJ hg ρ h1 h2 h3 h4 h5 => ?_⟩
        have HJ := hid hJ
        clear hJ
        have f21 : ρ (.tmp 21) = .pointer (some ⟨L, 0, none⟩) := h4 0 21 (by kernel_rfl) (by kernel_rfl)
        have h0 := HJ.out.not (i := 14) (by decide) (by decide) hl
        clear h0 h4 h5 hg
        unfold OpY
        go_simp
        first | exact ⟨rfl, HJ.out.put (i := 14) (by decide) (by decide) hl (fun e => absurd e (by decide)) (fun e => absurd e (by decide))⟩ | exact ⟨Or.inr rfl, HJ.out.put (i := 14) (by decide) (by decide) hl (fun e => absurd e (by decide)) (fun e => absurd e (by decide))⟩
      · refine ⟨(fun g b h => by cases h), fun l w' hl hdp hJ hg ρ h1 h2 h3 h4 h5 => ?_⟩
        have HJ := hid hJ
        clear hJ
        have f35 : ρ (.tmp 35) = .pointer (some ⟨L, 0, none⟩) := h4 14 35 (by kernel_rfl) (by kernel_rfl)
        have h0 := HJ.out.not (i := 15) (by decide) (by decide) hl
        clear h0 h4 h5 hg
        unfold OpY
        go_simp
        first | exact ⟨rfl, HJ.out.put (i := 15) (by decide) (by decide) hl (fun e => absurd e (by decide)) (fun _ => hdp 14 (by kernel_rfl))⟩ | exact ⟨Or.inr rfl, HJ.out.put (i := 15) (by decide) (by decide) hl (fun e => absurd e (by decide)) (fun _ => hdp 14 (by kernel_rfl))⟩
      · refine ⟨(fun g b h => by cases h), fun l w' hl hdp hJ hg ρ h1 h2 h3 h4 h5 => ?_⟩
        have HJ := hid hJ
        clear hJ
        have f36 : ρ (.tmp 36) = .pointer (some ⟨L, 1, none⟩) := h4 15 36 (by kernel_rfl) (by kernel_rfl)
        have h0 := HJ.out.not (i := 16) (by decide) (by decide) hl
        clear h0 h4 h5 hg
        unfold OpY
        go_simp
        first | exact ⟨rfl, HJ.out.put (i := 16) (by decide) (by decide) hl (fun _ => hdp 15 (by kernel_rfl)) (fun e => absurd e (by decide))⟩ | exact ⟨Or.inr rfl, HJ.out.put (i := 16) (by decide) (by decide) hl (fun _ => hdp 15 (by kernel_rfl)) (fun e => absurd e (by decide))⟩
      · refine ⟨(fun g b h => by cases h), fun l w' hl hdp hJ hg ρ h1 h2 h3 h4 h5 => ?_⟩
        have HJ := hid hJ
        clear hJ
        have f37 : ρ (.tmp 37) = .pointer (some ⟨L, 5, none⟩) := h4 16 37 (by kernel_rfl) (by kernel_rfl)
        have f34 : ρ (.tmp 34) = .int .i64 (c.bumped th) := h4 13 34 (by kernel_rfl) (by kernel_rfl)
        have h15 := hdp 16 (by kernel_rfl)
        have h14 := HJ.out.d1 h15
        have h13 := HJ.out.d2 h14
        have hall : ∀ q, q < 18 → q ≠ 17 → l q = true := all_of (si := 17) h13 h14 (by kernel_rfl) hdp
        obtain ⟨hw, hq⟩ := HJ.out.store (by decide) hl hall
        subst hw
        have HQ := hid hq
        have c := (HB1.out.below (ext_drew (ext_refl _))).cell 5 rfl
        have z := (HB1.out.below (ext_drew (ext_refl _))).free 5
        clear hall hq h13 h14 h15 h4 h5 hg
        unfold OpY
        go_simp
        exact HQ.out
    case hdone =>
      intro W2 hJ
      have hw := hJ.fin rfl
      clear hJ
      subst hw
      have HA2 := hid (HK.out.keep _ W1 (W1.drew.setCell ⟨L, 5, none⟩ (.int .i64 (c.bumped th))) HA1.out (fun k hk => Below.heap_setCell _ _ _ _ (fun e => HL.out (by have e' : k = L := e; rw [← e']; exact hk))))
      have HT2 := hid (((HT1.out.drew).mono (fun q hq => List.mem_cons_of_mem L hq)).setCell (p := ⟨L, 5, none⟩) (Or.inl (by simp)) (.int .i64 (c.bumped th)))
      have hb2 := (HB1.out.below (ext_drew (ext_refl _))).set 5 (.int .i64 (c.bumped th))
      have hb2' : Blk _ L (lineA C ⟨kind, (th : Int), tx, at_, c.bumped th, x, why⟩ (clo n vn) (clo i vi) (clo b vb)) 83 := hb2
      have HB2 := hid hb2'
      clear hb2 hb2' HA1 HT1 HB1 HC1
      generalize (W1.drew.setCell ⟨L, 5, none⟩ (.int .i64 (c.bumped th))) = W2 at *
      have d5 := HB2.out.cell 5 (v := .int .i64 (c.bumped th)) rfl
      have d10 := HB2.out.cell 10 (v := .func (.func b) #[] vb) rfl
      by_cases hb0 : c.bumped th = 0
      · have q1 : (c.bumped th == 0) = true := by simp [hb0]
        have HB0 := hid hb0
        clear hb0
        go_wp2_with fail
        refine (HK.out.bad _ _ HA2.out).mono ?_
        rintro e' W3 ⟨⟨rr, rfl⟩, ha3, ht3⟩
        have HA3 := hid ha3
        have HT3 := hid (HT2.out.trans (ht3.mono (fun q hq => List.mem_cons_of_mem L hq)))
        have HB3 := hid (ht3.blk HL.out HB2.out)
        clear ha3 ht3 d5 d10
        go_wp2_with fail
        go_end0
        try rw [if_neg HY0.out]
        try rw [if_pos HB0.out]
        try rw [HB0.out] at HB3
        first | exact ⟨rfl, HA3.out, HT3.out, HB3.out⟩ | (have h := HB0.out; simp only [h] at HB3 ⊢; exact ⟨rfl, HA3.out, HT3.out, HB3.out⟩)
      · have q1 : (c.bumped th == 0) = false := by simp [hb0]
        have q2 : decide (c.bumped th = 0) = false := by simp [hb0]
        have HB0 := hid hb0
        clear hb0
        go_wp2_with fail
        go_end0
        try rw [if_neg HY0.out]
        try rw [if_neg HB0.out]
        exact ⟨rfl, HA2.out, HT2.out, HB2.out⟩

set_option maxRecDepth 100000 in
set_option maxHeartbeats 4000000 in
theorem commit_any2 (hK : ClOk K ks At Px Ok n i b vn vi vb) (T V S : Int) (c : Cdr) (kind tx at_ v x why : Int) (th : Nat) (s : σ) (L C : Nat) (W : World) (hL : Blk W L (lineA C ⟨kind, (th : Int), tx, at_, v, x, why⟩ (clo n vn) (clo i vi) (clo b vb)) 83) (hC : Blk W C (cdrA T V S c) 74) (hA : At s W) (hLk : L ∉ ks) (hCk : C ∉ ks) (hLC : C ≠ L) (ho : Ok 1 s) (h2 : 2 ≤ v) (hp : Px 1) (hth : th < 6) :
    Calls Tryd.prog 61 #[.pointer (some ⟨L, 0, none⟩)] W (LineP ks At n i b vn vi vb L C W (let y := K.num s 1 1; if y.1 = 0 then (⟨kind, (th : Int), tx, at_, 0, x, why⟩, y.2) else (⟨kind, (th : Int), tx, at_, c.bumped th, x, why⟩, if c.bumped th = 0 then K.bad y.2 else y.2))) := by
  have HBL := hid hL
  have HBC := hid hC
  have HL := hid hLk
  have HC := hid hCk
  have HLC := hid hLC
  have HA := hid (hK.keep s W W.drew hA (fun _ _ => rfl))
  have HK := hid hK
  have hen := hK.en
  have hei := hK.ei
  have heb := hK.eb
  dsimp only
  have HA0 := hid hA
  have HN := hid (fun W' (h : At s W') => hK.num s 1 1 W' h ho hp ⟨by omega, by omega⟩)
  obtain ⟨y, hy⟩ : ∃ y, y = K.num s 1 1 := ⟨_, rfl⟩
  rw [← hy] at HN ⊢
  have HTH := hid hth
  have jt0 : (0 : Int) ≤ (th : Int) := by omega
  have jt6 : (th : Int) < 6 := by omega
  have d5 := hL.cell 5 (v := .int .i64 (v)) rfl
  have d8 := hL.cell 8 (v := .func (.func n) #[] vn) rfl
  have m1 : ¬ v ≤ 1 := by omega
  have m2 : (1 : Int) < v := by omega
  have m3 : decide (v ≤ 1) = false := by rw [decide_eq_false_iff_not]; omega
  have m4 : decide ((1 : Int) < v) = true := by rw [decide_eq_true_iff]; omega
  have m5 : decide (v < 1) = false := by rw [decide_eq_false_iff_not]; omega
  clear h2
  clear hp hth hy
  clear hL hC hLk hCk hK hA hLC ho
  unfold LineP
  unfold clo
  go_enter Tryd.func61, Tryd.ntmps61
  go_wp2_with fail
  refine (HN.out W HA0.out).mono ?_
  rintro e' W1 ⟨rfl, ha1, ht1⟩
  have HB1 := hid (ht1.blk HL.out HBL.out)
  have HC1 := hid (ht1.blk HC.out HBC.out)
  have HA1 := hid ha1
  have HT1 := hid ht1
  clear ha1 ht1 HN HA HA0 HBL HBC
  by_cases hy0 : y.1 = 0
  · have g1 : (y.1 == 0) = true := by simp [hy0]
    have d5 := HB1.out.cell 5 (v := .int .i64 (v)) rfl
    have z5 := HB1.out.free 5
    have HY0 := hid hy0
    clear hy0
    go_wp2_with fail
    refine bodyPost_ret (v := .tuple #[]) (by simp [results, Tryd.results61, go_sem]) rfl ?_
    try rw [if_pos HY0.out]
    exact ⟨rfl, HK.out.keep _ _ _ HA1.out (fun k hk => Below.heap_setCell _ _ _ _ (fun e => HL.out (by have e' : k = L := e; rw [← e']; exact hk))), (HT1.out.mono (fun q hq => List.mem_cons_of_mem _ hq)).setCell (Or.inl (by simp)) _, HB1.out.set 5 _⟩
  · have g1 : (y.1 == 0) = false := by simp [hy0]
    have g2 : decide (y.1 = 0) = false := by simp [hy0]
    have HY0 := hid hy0
    clear hy0
    go_wp2_with fail
    apply wp_region_knownJ (fun qq => ([.pointer (some ⟨L, 0, none⟩), .pointer (some ⟨L, 0, none⟩), .pointer (some ⟨L, 0, none⟩), .pointer (some ⟨L, 0, none⟩), .pointer (some ⟨C, 0, none⟩), .pointer (some ⟨L, 0, none⟩), .pointer (some ⟨L, 0, none⟩), .pointer (some ⟨L, 1, none⟩), .pointer (some ⟨L, 2, none⟩), .int .i64 ((th : Int)), .pointer (some ⟨C, 0, none⟩), .pointer (some ⟨C, 11, none⟩), .pointer (some ⟨C, 11 + th, none⟩), .int .i64 (c.bumped th), .pointer (some ⟨L, 0, none⟩), .pointer (some ⟨L, 1, none⟩), .pointer (some ⟨L, 5, none⟩), undef] : List Value).getD qq undef) (LS W1 ⟨L, 5, none⟩ (.int .i64 (c.bumped th)) 18 17)
    focus (simp [putAll, dstOf, Act.put, List.getD]; rfl)
    case hm => kernel_rfl
    case hd => kernel_rfl
    case hb => kernel_rfl
    case hng => kernel_rfl
    case hsz => kernel_rfl
    case hext => exact fun l l' w h H => H.ext (by decide) (fun i hi => h i hi)
    case h0 => exact LS.start
    case hstep =>
      refine ⟨?_, ?_, ?_, ?_, ?_, ?_, ?_, ?_, ?_, ?_, ?_, ?_, ?_, ?_, ?_, ?_, ?_, ?_,  trivial⟩
      · refine ⟨(fun g b h => by cases h), fun l w' hl hdp hJ hg ρ h1 h2 h3 h4 h5 => ?_⟩
        have HJ := hid hJ
        clear hJ
        have f0 : ρ (.tmp 0) = .pointer (some ⟨L, 0, none⟩) := h5 0 (by kernel_rfl)
        have h0 := HJ.out.not (i := 0) (by decide) (by decide) hl
        clear h0 h4 h5 hg
        unfold OpY
        go_simp
        first | exact ⟨rfl, HJ.out.put (i := 0) (by decide) (by decide) hl (fun e => absurd e (by decide)) (fun e => absurd e (by decide))⟩ | exact ⟨Or.inr rfl, HJ.out.put (i := 0) (by decide) (by decide) hl (fun e => absurd e (by decide)) (fun e => absurd e (by decide))⟩
      · refine ⟨(fun g b h => by cases h), fun l w' hl hdp hJ hg ρ h1 h2 h3 h4 h5 => ?_⟩
        have HJ := hid hJ
        clear hJ
        have f0 : ρ (.tmp 0) = .pointer (some ⟨L, 0, none⟩) := h5 0 (by kernel_rfl)
        have h0 := HJ.out.not (i := 1) (by decide) (by decide) hl
        clear h0 h4 h5 hg
        unfold OpY
        go_simp
        first | exact ⟨rfl, HJ.out.put (i := 1) (by decide) (by decide) hl (fun e => absurd e (by decide)) (fun e => absurd e (by decide))⟩ | exact ⟨Or.inr rfl, HJ.out.put (i := 1) (by decide) (by decide) hl (fun e => absurd e (by decide)) (fun e => absurd e (by decide))⟩
      · refine ⟨(fun g b h => by cases h), fun l w' hl hdp hJ hg ρ h1 h2 h3 h4 h5 => ?_⟩
        have HJ := hid hJ
        clear hJ
        have f22 : ρ (.tmp 22) = .pointer (some ⟨L, 0, none⟩) := h4 1 22 (by kernel_rfl) (by kernel_rfl)
        have h0 := HJ.out.not (i := 2) (by decide) (by decide) hl
        clear h0 h4 h5 hg
        unfold OpY
        go_simp
        first | exact ⟨rfl, HJ.out.put (i := 2) (by decide) (by decide) hl (fun e => absurd e (by decide)) (fun e => absurd e (by decide))⟩ | exact ⟨Or.inr rfl, HJ.out.put (i := 2) (by decide) (by decide) hl (fun e => absurd e (by decide)) (fun e => absurd e (by decide))⟩
      · refine ⟨(fun g b h => by cases h), fun l w' hl hdp hJ hg ρ h1 h2 h3 h4 h5 => ?_⟩
        have HJ := hid hJ
        clear hJ
        have f23 : ρ (.tmp 23) = .pointer (some ⟨L, 0, none⟩) := h4 2 23 (by kernel_rfl) (by kernel_rfl)
        have h0 := HJ.out.not (i := 3) (by decide) (by decide) hl
        clear h0 h4 h5 hg
        unfold OpY
        go_simp
        first | exact ⟨rfl, HJ.out.put (i := 3) (by decide) (by decide) hl (fun e => absurd e (by decide)) (fun e => absurd e (by decide))⟩ | exact ⟨Or.inr rfl, HJ.out.put (i := 3) (by decide) (by decide) hl (fun e => absurd e (by decide)) (fun e => absurd e (by decide))⟩
      · refine ⟨(fun g b h => by cases h), fun l w' hl hdp hJ hg ρ h1 h2 h3 h4 h5 => ?_⟩
        have HJ := hid hJ
        clear hJ
        have f24 : ρ (.tmp 24) = .pointer (some ⟨L, 0, none⟩) := h4 3 24 (by kernel_rfl) (by kernel_rfl)
        have h0 := HJ.out.not (i := 4) (by decide) (by decide) hl
        have hw := HJ.out.pre h0
        subst hw
        have c : (W1.drew).cell? ⟨L, 0, none⟩ = some (.pointer (some ⟨C, 0, none⟩)) := ((HB1.out.below (ext_drew (ext_refl _)))).cell 0 rfl
        clear h0 h4 h5 hg
        unfold OpY
        go_simp
        first | exact ⟨rfl, HJ.out.put (i := 4) (by decide) (by decide) hl (fun e => absurd e (by decide)) (fun e => absurd e (by decide))⟩ | exact ⟨Or.inr rfl, HJ.out.put (i := 4) (by decide) (by decide) hl (fun e => absurd e (by decide)) (fun e => absurd e (by decide))⟩
      · refine ⟨(fun g b h => by cases h), fun l w' hl hdp hJ hg ρ h1 h2 h3 h4 h5 => ?_⟩
        have HJ := hid hJ
        clear hJ
        have f0 : ρ (.tmp 0) = .pointer (some ⟨L, 0, none⟩) := h5 0 (by kernel_rfl)
        have h0 := HJ.out.not (i := 5) (by decide) (by decide) hl
        clear h0 h4 h5 hg
        unfold OpY
        go_simp
        first | exact ⟨rfl, HJ.out.put (i := 5) (by decide) (by decide) hl (fun e => absurd e (by decide)) (fun e => absurd e (by decide))⟩ | exact ⟨Or.inr rfl, HJ.out.put (i := 5) (by decide) (by decide) hl (fun e => absurd e (by decide)) (fun e => absurd e (by decide))⟩
      · refine ⟨(fun g b h => by cases h), fun l w' hl hdp hJ hg ρ h1 h2 h3 h4 h5 => ?_⟩
        have HJ := hid hJ
        clear hJ
        have f26 : ρ (.tmp 26) = .pointer (some ⟨L, 0, none⟩) := h4 5 26 (by kernel_rfl) (by kernel_rfl)
        have h0 := HJ.out.not (i := 6) (by decide) (by decide) hl
        clear h0 h4 h5 hg
        unfold OpY
        go_simp
        first | exact ⟨rfl, HJ.out.put (i := 6) (by decide) (by decide) hl (fun e => absurd e (by decide)) (fun e => absurd e (by decide))⟩ | exact ⟨Or.inr rfl, HJ.out.put (i := 6) (by decide) (by decide) hl (fun e => absurd e (by decide)) (fun e => absurd e (by decide))⟩
      · refine ⟨(fun g b h => by cases h), fun l w' hl hdp hJ hg ρ h1 h2 h3 h4 h5 => ?_⟩
        have HJ := hid hJ
        clear hJ
        have f27 : ρ (.tmp 27) = .pointer (some ⟨L, 0, none⟩) := h4 6 27 (by kernel_rfl) (by kernel_rfl)
        have h0 := HJ.out.not (i := 7) (by decide) (by decide) hl
        clear h0 h4 h5 hg
        unfold OpY
        go_simp
        first | exact ⟨rfl, HJ.out.put (i := 7) (by decide) (by decide) hl (fun e => absurd e (by decide)) (fun e => absurd e (by decide))⟩ | exact ⟨Or.inr rfl, HJ.out.put (i := 7) (by decide) (by decide) hl (fun e => absurd e (by decide)) (fun e => absurd e (by decide))⟩
      · refine ⟨(fun g b h => by cases h), fun l w' hl hdp hJ hg ρ h1 h2 h3 h4 h5 => ?_⟩
        have HJ := hid hJ
        clear hJ
        have f28 : ρ (.tmp 28) = .pointer (some ⟨L, 1, none⟩) := h4 7 28 (by kernel_rfl) (by kernel_rfl)
        have h0 := HJ.out.not (i := 8) (by decide) (by decide) hl
        clear h0 h4 h5 hg
        unfold OpY
        go_simp
        first | exact ⟨rfl, HJ.out.put (i := 8) (by decide) (by decide) hl (fun e => absurd e (by decide)) (fun e => absurd e (by decide))⟩ | exact ⟨Or.inr rfl, HJ.out.put (i := 8) (by decide) (by decide) hl (fun e => absurd e (by decide)) (fun e => absurd e (by decide))⟩
      · refine ⟨(fun g b h => by cases h), fun l w' hl hdp hJ hg ρ h1 h2 h3 h4 h5 => ?_⟩
        have HJ := hid hJ
        clear hJ
        have f29 : ρ (.tmp 29) = .pointer (some ⟨L, 2, none⟩) := h4 8 29 (by kernel_rfl) (by kernel_rfl)
        have h0 := HJ.out.not (i := 9) (by decide) (by decide) hl
        have hw := HJ.out.pre h0
        subst hw
        have c : (W1.drew).cell? ⟨L, 2, none⟩ = some (.int .i64 ((th : Int))) := ((HB1.out.below (ext_drew (ext_refl _)))).cell 2 rfl
        clear h0 h4 h5 hg
        unfold OpY
        go_simp
        first | exact ⟨rfl, HJ.out.put (i := 9) (by decide) (by decide) hl (fun e => absurd e (by decide)) (fun e => absurd e (by decide))⟩ | exact ⟨Or.inr rfl, HJ.out.put (i := 9) (by decide) (by decide) hl (fun e => absurd e (by decide)) (fun e => absurd e (by decide))⟩
      · refine ⟨(fun g b h => by cases h), fun l w' hl hdp hJ hg ρ h1 h2 h3 h4 h5 => ?_⟩
        have HJ := hid hJ
        clear hJ
        have f25 : ρ (.tmp 25) = .pointer (some ⟨C, 0, none⟩) := h4 4 25 (by kernel_rfl) (by kernel_rfl)
        have h0 := HJ.out.not (i := 10) (by decide) (by decide) hl
        clear h0 h4 h5 hg
        unfold OpY
        go_simp
        first | exact ⟨rfl, HJ.out.put (i := 10) (by decide) (by decide) hl (fun e => absurd e (by decide)) (fun e => absurd e (by decide))⟩ | exact ⟨Or.inr rfl, HJ.out.put (i := 10) (by decide) (by decide) hl (fun e => absurd e (by decide)) (fun e => absurd e (by decide))⟩
      · refine ⟨(fun g b h => by cases h), fun l w' hl hdp hJ hg ρ h1 h2 h3 h4 h5 => ?_⟩
        have HJ := hid hJ
        clear hJ
        have f31 : ρ (.tmp 31) = .pointer (some ⟨C, 0, none⟩) := h4 10 31 (by kernel_rfl) (by kernel_rfl)
        have h0 := HJ.out.not (i := 11) (by decide) (by decide) hl
        clear h0 h4 h5 hg
        unfold OpY
        go_simp
        first | exact ⟨rfl, HJ.out.put (i := 11) (by decide) (by decide) hl (fun e => absurd e (by decide)) (fun e => absurd e (by decide))⟩ | exact ⟨Or.inr rfl, HJ.out.put (i := 11) (by decide) (by decide) hl (fun e => absurd e (by decide)) (fun e => absurd e (by decide))⟩
      · refine ⟨(fun g b h => by cases h), fun l w' hl hdp hJ hg ρ h1 h2 h3 h4 h5 => ?_⟩
        have HJ := hid hJ
        clear hJ
        have f32 : ρ (.tmp 32) = .pointer (some ⟨C, 11, none⟩) := h4 11 32 (by kernel_rfl) (by kernel_rfl)
        have f30 : ρ (.tmp 30) = .int .i64 ((th : Int)) := h4 9 30 (by kernel_rfl) (by kernel_rfl)
        have h0 := HJ.out.not (i := 12) (by decide) (by decide) hl
        clear h0 h4 h5 hg
        unfold OpY
        go_simp
        first | exact ⟨rfl, HJ.out.put (i := 12) (by decide) (by decide) hl (fun e => absurd e (by decide)) (fun e => absurd e (by decide))⟩ | exact ⟨Or.inr rfl, HJ.out.put (i := 12) (by decide) (by decide) hl (fun e => absurd e (by decide)) (fun e => absurd e (by decide))⟩
      · refine ⟨(fun g b h => by cases h), fun l w' hl hdp hJ hg ρ h1 h2 h3 h4 h5 => ?_⟩
        have HJ := hid hJ
        clear hJ
        have f33 : ρ (.tmp 33) = .pointer (some ⟨C, 11 + th, none⟩) := h4 12 33 (by kernel_rfl) (by kernel_rfl)
        have h0 := HJ.out.not (i := 13) (by decide) (by decide) hl
        have hw := HJ.out.pre h0
        subst hw
        have c := (HC1.out.below (ext_drew (ext_refl _))).cell (11 + th) (cdr_bumped T V S c HTH.out)
        clear h0 h4 h5 hg
        unfold OpY
        go_simp
        first | exact ⟨rfl, HJ.out.put (i := 13) (by decide) (by decide) hl (fun e => absurd e (by decide)) (fun e => absurd e (by decide))⟩ | exact ⟨Or.inr rfl, HJ.out.put (i := 13) (by decide) (by decide) hl (fun e => absurd e (by decide)) (fun e => absurd e (by decide))⟩
      · refine ⟨(fun g b h => by cases h), fun l w' hl hdp hJ hg ρ h1 h2 h3 h4 h5 => ?_⟩
        have HJ := hid hJ
        clear hJ
        have f21 : ρ (.tmp 21) = .pointer (some ⟨L, 0, none⟩) := h4 0 21 (by kernel_rfl) (by kernel_rfl)
        have h0 := HJ.out.not (i := 14) (by decide) (by decide) hl
        clear h0 h4 h5 hg
        unfold OpY
        go_simp
        first | exact ⟨rfl, HJ.out.put (i := 14) (by decide) (by decide) hl (fun e => absurd e (by decide)) (fun e => absurd e (by decide))⟩ | exact ⟨Or.inr rfl, HJ.out.put (i := 14) (by decide) (by decide) hl (fun e => absurd e (by decide)) (fun e => absurd e (by decide))⟩
      · refine ⟨(fun g b h => by cases h), fun l w' hl hdp hJ hg ρ h1 h2 h3 h4 h5 => ?_⟩
        have HJ := hid hJ
        clear hJ
        have f35 : ρ (.tmp 35) = .pointer (some ⟨L, 0, none⟩) := h4 14 35 (by kernel_rfl) (by kernel_rfl)
        have h0 := HJ.out.not (i := 15) (by decide) (by decide) hl
        clear h0 h4 h5 hg
        unfold OpY
        go_simp
        first | exact ⟨rfl, HJ.out.put (i := 15) (by decide) (by decide) hl (fun e => absurd e (by decide)) (fun _ => hdp 14 (by kernel_rfl))⟩ | exact ⟨Or.inr rfl, HJ.out.put (i := 15) (by decide) (by decide) hl (fun e => absurd e (by decide)) (fun _ => hdp 14 (by kernel_rfl))⟩
      · refine ⟨(fun g b h => by cases h), fun l w' hl hdp hJ hg ρ h1 h2 h3 h4 h5 => ?_⟩
        have HJ := hid hJ
        clear hJ
        have f36 : ρ (.tmp 36) = .pointer (some ⟨L, 1, none⟩) := h4 15 36 (by kernel_rfl) (by kernel_rfl)
        have h0 := HJ.out.not (i := 16) (by decide) (by decide) hl
        clear h0 h4 h5 hg
        unfold OpY
        go_simp
        first | exact ⟨rfl, HJ.out.put (i := 16) (by decide) (by decide) hl (fun _ => hdp 15 (by kernel_rfl)) (fun e => absurd e (by decide))⟩ | exact ⟨Or.inr rfl, HJ.out.put (i := 16) (by decide) (by decide) hl (fun _ => hdp 15 (by kernel_rfl)) (fun e => absurd e (by decide))⟩
      · refine ⟨(fun g b h => by cases h), fun l w' hl hdp hJ hg ρ h1 h2 h3 h4 h5 => ?_⟩
        have HJ := hid hJ
        clear hJ
        have f37 : ρ (.tmp 37) = .pointer (some ⟨L, 5, none⟩) := h4 16 37 (by kernel_rfl) (by kernel_rfl)
        have f34 : ρ (.tmp 34) = .int .i64 (c.bumped th) := h4 13 34 (by kernel_rfl) (by kernel_rfl)
        have h15 := hdp 16 (by kernel_rfl)
        have h14 := HJ.out.d1 h15
        have h13 := HJ.out.d2 h14
        have hall : ∀ q, q < 18 → q ≠ 17 → l q = true := all_of (si := 17) h13 h14 (by kernel_rfl) hdp
        obtain ⟨hw, hq⟩ := HJ.out.store (by decide) hl hall
        subst hw
        have HQ := hid hq
        have c := (HB1.out.below (ext_drew (ext_refl _))).cell 5 rfl
        have z := (HB1.out.below (ext_drew (ext_refl _))).free 5
        clear hall hq h13 h14 h15 h4 h5 hg
        unfold OpY
        go_simp
        exact HQ.out
    case hdone =>
      intro W2 hJ
      have hw := hJ.fin rfl
      clear hJ
      subst hw
      have HA2 := hid (HK.out.keep _ W1 (W1.drew.setCell ⟨L, 5, none⟩ (.int .i64 (c.bumped th))) HA1.out (fun k hk => Below.heap_setCell _ _ _ _ (fun e => HL.out (by have e' : k = L := e; rw [← e']; exact hk))))
      have HT2 := hid (((HT1.out.drew).mono (fun q hq => List.mem_cons_of_mem L hq)).setCell (p := ⟨L, 5, none⟩) (Or.inl (by simp)) (.int .i64 (c.bumped th)))
      have hb2 := (HB1.out.below (ext_drew (ext_refl _))).set 5 (.int .i64 (c.bumped th))
      have hb2' : Blk _ L (lineA C ⟨kind, (th : Int), tx, at_, c.bumped th, x, why⟩ (clo n vn) (clo i vi) (clo b vb)) 83 := hb2
      have HB2 := hid hb2'
      clear hb2 hb2' HA1 HT1 HB1 HC1
      generalize (W1.drew.setCell ⟨L, 5, none⟩ (.int .i64 (c.bumped th))) = W2 at *
      have d5 := HB2.out.cell 5 (v := .int .i64 (c.bumped th)) rfl
      have d10 := HB2.out.cell 10 (v := .func (.func b) #[] vb) rfl
      by_cases hb0 : c.bumped th = 0
      · have q1 : (c.bumped th == 0) = true := by simp [hb0]
        have HB0 := hid hb0
        clear hb0
        go_wp2_with fail
        refine (HK.out.bad _ _ HA2.out).mono ?_
        rintro e' W3 ⟨⟨rr, rfl⟩, ha3, ht3⟩
        have HA3 := hid ha3
        have HT3 := hid (HT2.out.trans (ht3.mono (fun q hq => List.mem_cons_of_mem L hq)))
        have HB3 := hid (ht3.blk HL.out HB2.out)
        clear ha3 ht3 d5 d10
        go_wp2_with fail
        go_end0
        try rw [if_neg HY0.out]
        try rw [if_pos HB0.out]
        try rw [HB0.out] at HB3
        first | exact ⟨rfl, HA3.out, HT3.out, HB3.out⟩ | (have h := HB0.out; simp only [h] at HB3 ⊢; exact ⟨rfl, HA3.out, HT3.out, HB3.out⟩)
      · have q1 : (c.bumped th == 0) = false := by simp [hb0]
        have q2 : decide (c.bumped th = 0) = false := by simp [hb0]
        have HB0 := hid hb0
        clear hb0
        go_wp2_with fail
        go_end0
        try rw [if_neg HY0.out]
        try rw [if_neg HB0.out]
        exact ⟨rfl, HA2.out, HT2.out, HB2.out⟩

end
end Go.Proofs.YtokkafiphchejaaDoor
