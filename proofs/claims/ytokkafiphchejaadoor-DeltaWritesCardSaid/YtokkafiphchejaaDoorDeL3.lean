/-
  The methods of a line, for abstract closures (printed by gen_line2.py).
-/
import Derived.Test.YtokkafiphchejaaDoorDeL1b
namespace Go.Proofs.YtokkafiphchejaaDoor
set_option linter.unusedVariables false
set_option linter.unusedSimpArgs false
set_option linter.unusedVariables false
open Go Go.RowKit
section
variable {σ : Type} {K : Cl σ} {ks : List Nat} {At : σ → World → Prop} {Px : Int → Prop} {Ok : Nat → σ → Prop} {n i b : FuncId} {vn vi vb : Array Value}

set_option maxRecDepth 100000 in
set_option maxHeartbeats 4000000 in
theorem bump_any (hK : ClOk K ks At Px Ok n i b vn vi vb) (T V S : Int) (c : Cdr) (kind tx at_ v x why : Int) (th : Nat) (s : σ) (L C : Nat) (W : World) (hL : Blk W L (lineA C ⟨kind, (th : Int), tx, at_, v, x, why⟩ (clo n vn) (clo i vi) (clo b vb)) 83) (hC : Blk W C (cdrA T V S c) 74) (hA : At s W) (hLk : L ∉ ks) (hCk : C ∉ ks) (hLC : C ≠ L) (ho : Ok 1 s) (hv : Px (v - c.clock)) (h1 : 0 ≤ v ∧ v ≤ 1099511627776) (h2 : 0 ≤ c.clock ∧ c.clock ≤ 1099511627776) :
    Calls Tryd.prog 60 #[.pointer (some ⟨L, 0, none⟩)] W (LineP ks At n i b vn vi vb L C W (let y := K.num s (v - c.clock) (maxClockN - c.clock); (⟨kind, (th : Int), tx, at_, c.clock + y.1, x, why⟩, if y.1 = 0 then K.bad y.2 else y.2))) := by
  have HBL := hid hL
  have HBC := hid hC
  have HL := hid hLk
  have HC := hid hCk
  have HLC := hid hLC
  have HA := hid (hK.keep s W W.drew hA (fun _ _ => rfl))
  have HK := hid hK
  have hen := hK.en
  have hei := hK.ei
  have heb := hK.eb
  dsimp only
  unfold maxClockN
  have HN := hid (fun W' (h : At s W') => hK.num s (v - c.clock) (1099511627776 - c.clock) W' h ho hv ⟨by omega, by omega⟩)
  have hz1 := hK.nb s (v - c.clock) (1099511627776 - c.clock) hv ⟨by omega, by omega⟩
  obtain ⟨y, hy⟩ : ∃ y, y = K.num s (v - c.clock) (1099511627776 - c.clock) := ⟨_, rfl⟩
  rw [← hy] at HN hz1 ⊢
  have j1 : IntKind.i64.wrap (v - c.clock) = v - c.clock := IntWalk.i64_in _ (by omega)
  have j2 : IntKind.i64.wrap (1099511627776 - c.clock) = 1099511627776 - c.clock := IntWalk.i64_in _ (by omega)
  have j3 : IntKind.i64.wrap (c.clock + y.1) = c.clock + y.1 := IntWalk.i64_in _ (by omega)
  clear hv h1 h2 hy hz1
  clear hL hC hLk hCk hK hA hLC ho
  unfold LineP
  unfold clo
  go_enter Tryd.func60, Tryd.ntmps60
  go_wp2_with fail
  apply wp_region_knownJ (fun qq => ([.pointer (some ⟨L, 0, none⟩), .pointer (some ⟨L, 0, none⟩), .pointer (some ⟨L, 8, none⟩), .func (.func n) #[] vn, .pointer (some ⟨L, 0, none⟩), .pointer (some ⟨L, 0, none⟩), .pointer (some ⟨L, 1, none⟩), .pointer (some ⟨L, 5, none⟩), .int .i64 (v), .pointer (some ⟨L, 0, none⟩), .pointer (some ⟨L, 0, none⟩), .pointer (some ⟨L, 0, none⟩), .pointer (some ⟨C, 0, none⟩), .pointer (some ⟨C, 0, none⟩), .pointer (some ⟨C, 4, none⟩), .int .i64 (c.clock), .int .i64 (v - c.clock), .pointer (some ⟨L, 0, none⟩), .pointer (some ⟨L, 0, none⟩), .pointer (some ⟨L, 0, none⟩), .pointer (some ⟨C, 0, none⟩), .pointer (some ⟨C, 0, none⟩), .pointer (some ⟨C, 4, none⟩), .int .i64 (c.clock), .int .i64 (1099511627776 - c.clock), .int .i64 (y.1), .int .i64 (y.1)] : List Value).getD qq undef) (LK W ks At y.2 27 25 26)
  focus (simp [putAll, dstOf, Act.put, List.getD]; rfl)
  case hm => kernel_rfl
  case hd => kernel_rfl
  case hb => kernel_rfl
  case hng => kernel_rfl
  case hsz => kernel_rfl
  case hext => exact fun l l' w h H => H.ext (by decide) (by decide) (fun i hi => h i hi)
  case h0 => exact LK.start
  case hstep =>
    refine ⟨?_, ?_, ?_, ?_, ?_, ?_, ?_, ?_, ?_, ?_, ?_, ?_, ?_, ?_, ?_, ?_, ?_, ?_, ?_, ?_, ?_, ?_, ?_, ?_, ?_, ?_, ?_,  trivial⟩
    · refine ⟨(fun g b h => by cases h), fun l w' hl hdp hJ hg ρ h1 h2 h3 h4 h5 => ?_⟩
      have HJ := hid hJ
      clear hJ
      have f0 : ρ (.tmp 0) = .pointer (some ⟨L, 0, none⟩) := h5 0 (by kernel_rfl)
      have h0 := HJ.out.not (i := 0) (by decide) (by decide) hl
      clear h0 h4 h5 hg
      unfold OpY
      go_simp
      first | exact ⟨rfl, HJ.out.put (i := 0) (by decide) (by decide) (by decide) hl⟩ | exact ⟨Or.inr rfl, HJ.out.put (i := 0) (by decide) (by decide) (by decide) hl⟩
    · refine ⟨(fun g b h => by cases h), fun l w' hl hdp hJ hg ρ h1 h2 h3 h4 h5 => ?_⟩
      have HJ := hid hJ
      clear hJ
      have f3 : ρ (.tmp 3) = .pointer (some ⟨L, 0, none⟩) := h4 0 3 (by kernel_rfl) (by kernel_rfl)
      have h0 := HJ.out.not (i := 1) (by decide) (by decide) hl
      clear h0 h4 h5 hg
      unfold OpY
      go_simp
      first | exact ⟨rfl, HJ.out.put (i := 1) (by decide) (by decide) (by decide) hl⟩ | exact ⟨Or.inr rfl, HJ.out.put (i := 1) (by decide) (by decide) (by decide) hl⟩
    · refine ⟨(fun g b h => by cases h), fun l w' hl hdp hJ hg ρ h1 h2 h3 h4 h5 => ?_⟩
      have HJ := hid hJ
      clear hJ
      have f4 : ρ (.tmp 4) = .pointer (some ⟨L, 0, none⟩) := h4 1 4 (by kernel_rfl) (by kernel_rfl)
      have h0 := HJ.out.not (i := 2) (by decide) (by decide) hl
      clear h0 h4 h5 hg
      unfold OpY
      go_simp
      first | exact ⟨rfl, HJ.out.put (i := 2) (by decide) (by decide) (by decide) hl⟩ | exact ⟨Or.inr rfl, HJ.out.put (i := 2) (by decide) (by decide) (by decide) hl⟩
    · refine ⟨(fun g b h => by cases h), fun l w' hl hdp hJ hg ρ h1 h2 h3 h4 h5 => ?_⟩
      have HJ := hid hJ
      clear hJ
      have f5 : ρ (.tmp 5) = .pointer (some ⟨L, 8, none⟩) := h4 2 5 (by kernel_rfl) (by kernel_rfl)
      have h0 := HJ.out.not (i := 3) (by decide) (by decide) hl
      have c : w'.cell? ⟨L, 8, none⟩ = some (.func (.func n) #[] vn) := ((HJ.out.turn).blk HL.out HBL.out).cell 8 rfl
      clear h0 h4 h5 hg
      unfold OpY
      go_simp
      first | exact ⟨rfl, HJ.out.put (i := 3) (by decide) (by decide) (by decide) hl⟩ | exact ⟨Or.inr rfl, HJ.out.put (i := 3) (by decide) (by decide) (by decide) hl⟩
    · refine ⟨(fun g b h => by cases h), fun l w' hl hdp hJ hg ρ h1 h2 h3 h4 h5 => ?_⟩
      have HJ := hid hJ
      clear hJ
      have f0 : ρ (.tmp 0) = .pointer (some ⟨L, 0, none⟩) := h5 0 (by kernel_rfl)
      have h0 := HJ.out.not (i := 4) (by decide) (by decide) hl
      clear h0 h4 h5 hg
      unfold OpY
      go_simp
      first | exact ⟨rfl, HJ.out.put (i := 4) (by decide) (by decide) (by decide) hl⟩ | exact ⟨Or.inr rfl, HJ.out.put (i := 4) (by decide) (by decide) (by decide) hl⟩
    · refine ⟨(fun g b h => by cases h), fun l w' hl hdp hJ hg ρ h1 h2 h3 h4 h5 => ?_⟩
      have HJ := hid hJ
      clear hJ
      have f7 : ρ (.tmp 7) = .pointer (some ⟨L, 0, none⟩) := h4 4 7 (by kernel_rfl) (by kernel_rfl)
      have h0 := HJ.out.not (i := 5) (by decide) (by decide) hl
      clear h0 h4 h5 hg
      unfold OpY
      go_simp
      first | exact ⟨rfl, HJ.out.put (i := 5) (by decide) (by decide) (by decide) hl⟩ | exact ⟨Or.inr rfl, HJ.out.put (i := 5) (by decide) (by decide) (by decide) hl⟩
    · refine ⟨(fun g b h => by cases h), fun l w' hl hdp hJ hg ρ h1 h2 h3 h4 h5 => ?_⟩
      have HJ := hid hJ
      clear hJ
      have f8 : ρ (.tmp 8) = .pointer (some ⟨L, 0, none⟩) := h4 5 8 (by kernel_rfl) (by kernel_rfl)
      have h0 := HJ.out.not (i := 6) (by decide) (by decide) hl
      clear h0 h4 h5 hg
      unfold OpY
      go_simp
      first | exact ⟨rfl, HJ.out.put (i := 6) (by decide) (by decide) (by decide) hl⟩ | exact ⟨Or.inr rfl, HJ.out.put (i := 6) (by decide) (by decide) (by decide) hl⟩
    · refine ⟨(fun g b h => by cases h), fun l w' hl hdp hJ hg ρ h1 h2 h3 h4 h5 => ?_⟩
      have HJ := hid hJ
      clear hJ
      have f9 : ρ (.tmp 9) = .pointer (some ⟨L, 1, none⟩) := h4 6 9 (by kernel_rfl) (by kernel_rfl)
      have h0 := HJ.out.not (i := 7) (by decide) (by decide) hl
      clear h0 h4 h5 hg
      unfold OpY
      go_simp
      first | exact ⟨rfl, HJ.out.put (i := 7) (by decide) (by decide) (by decide) hl⟩ | exact ⟨Or.inr rfl, HJ.out.put (i := 7) (by decide) (by decide) (by decide) hl⟩
    · refine ⟨(fun g b h => by cases h), fun l w' hl hdp hJ hg ρ h1 h2 h3 h4 h5 => ?_⟩
      have HJ := hid hJ
      clear hJ
      have f10 : ρ (.tmp 10) = .pointer (some ⟨L, 5, none⟩) := h4 7 10 (by kernel_rfl) (by kernel_rfl)
      have h0 := HJ.out.not (i := 8) (by decide) (by decide) hl
      have c : w'.cell? ⟨L, 5, none⟩ = some (.int .i64 (v)) := ((HJ.out.turn).blk HL.out HBL.out).cell 5 rfl
      clear h0 h4 h5 hg
      unfold OpY
      go_simp
      first | exact ⟨rfl, HJ.out.put (i := 8) (by decide) (by decide) (by decide) hl⟩ | exact ⟨Or.inr rfl, HJ.out.put (i := 8) (by decide) (by decide) (by decide) hl⟩
    · refine ⟨(fun g b h => by cases h), fun l w' hl hdp hJ hg ρ h1 h2 h3 h4 h5 => ?_⟩
      have HJ := hid hJ
      clear hJ
      have f0 : ρ (.tmp 0) = .pointer (some ⟨L, 0, none⟩) := h5 0 (by kernel_rfl)
      have h0 := HJ.out.not (i := 9) (by decide) (by decide) hl
      clear h0 h4 h5 hg
      unfold OpY
      go_simp
      first | exact ⟨rfl, HJ.out.put (i := 9) (by decide) (by decide) (by decide) hl⟩ | exact ⟨Or.inr rfl, HJ.out.put (i := 9) (by decide) (by decide) (by decide) hl⟩
    · refine ⟨(fun g b h => by cases h), fun l w' hl hdp hJ hg ρ h1 h2 h3 h4 h5 => ?_⟩
      have HJ := hid hJ
      clear hJ
      have f12 : ρ (.tmp 12) = .pointer (some ⟨L, 0, none⟩) := h4 9 12 (by kernel_rfl) (by kernel_rfl)
      have h0 := HJ.out.not (i := 10) (by decide) (by decide) hl
      clear h0 h4 h5 hg
      unfold OpY
      go_simp
      first | exact ⟨rfl, HJ.out.put (i := 10) (by decide) (by decide) (by decide) hl⟩ | exact ⟨Or.inr rfl, HJ.out.put (i := 10) (by decide) (by decide) (by decide) hl⟩
    · refine ⟨(fun g b h => by cases h), fun l w' hl hdp hJ hg ρ h1 h2 h3 h4 h5 => ?_⟩
      have HJ := hid hJ
      clear hJ
      have f13 : ρ (.tmp 13) = .pointer (some ⟨L, 0, none⟩) := h4 10 13 (by kernel_rfl) (by kernel_rfl)
      have h0 := HJ.out.not (i := 11) (by decide) (by decide) hl
      clear h0 h4 h5 hg
      unfold OpY
      go_simp
      first | exact ⟨rfl, HJ.out.put (i := 11) (by decide) (by decide) (by decide) hl⟩ | exact ⟨Or.inr rfl, HJ.out.put (i := 11) (by decide) (by decide) (by decide) hl⟩
    · refine ⟨(fun g b h => by cases h), fun l w' hl hdp hJ hg ρ h1 h2 h3 h4 h5 => ?_⟩
      have HJ := hid hJ
      clear hJ
      have f14 : ρ (.tmp 14) = .pointer (some ⟨L, 0, none⟩) := h4 11 14 (by kernel_rfl) (by kernel_rfl)
      have h0 := HJ.out.not (i := 12) (by decide) (by decide) hl
      have c : w'.cell? ⟨L, 0, none⟩ = some (.pointer (some ⟨C, 0, none⟩)) := ((HJ.out.turn).blk HL.out HBL.out).cell 0 rfl
      clear h0 h4 h5 hg
      unfold OpY
      go_simp
      first | exact ⟨rfl, HJ.out.put (i := 12) (by decide) (by decide) (by decide) hl⟩ | exact ⟨Or.inr rfl, HJ.out.put (i := 12) (by decide) (by decide) (by decide) hl⟩
    · refine ⟨(fun g b h => by cases h), fun l w' hl hdp hJ hg ρ h1 h2 h3 h4 h5 => ?_⟩
      have HJ := hid hJ
      clear hJ
      have f15 : ρ (.tmp 15) = .pointer (some ⟨C, 0, none⟩) := h4 12 15 (by kernel_rfl) (by kernel_rfl)
      have h0 := HJ.out.not (i := 13) (by decide) (by decide) hl
      clear h0 h4 h5 hg
      unfold OpY
      go_simp
      first | exact ⟨rfl, HJ.out.put (i := 13) (by decide) (by decide) (by decide) hl⟩ | exact ⟨Or.inr rfl, HJ.out.put (i := 13) (by decide) (by decide) (by decide) hl⟩
    · refine ⟨(fun g b h => by cases h), fun l w' hl hdp hJ hg ρ h1 h2 h3 h4 h5 => ?_⟩
      have HJ := hid hJ
      clear hJ
      have f16 : ρ (.tmp 16) = .pointer (some ⟨C, 0, none⟩) := h4 13 16 (by kernel_rfl) (by kernel_rfl)
      have h0 := HJ.out.not (i := 14) (by decide) (by decide) hl
      clear h0 h4 h5 hg
      unfold OpY
      go_simp
      first | exact ⟨rfl, HJ.out.put (i := 14) (by decide) (by decide) (by decide) hl⟩ | exact ⟨Or.inr rfl, HJ.out.put (i := 14) (by decide) (by decide) (by decide) hl⟩
    · refine ⟨(fun g b h => by cases h), fun l w' hl hdp hJ hg ρ h1 h2 h3 h4 h5 => ?_⟩
      have HJ := hid hJ
      clear hJ
      have f17 : ρ (.tmp 17) = .pointer (some ⟨C, 4, none⟩) := h4 14 17 (by kernel_rfl) (by kernel_rfl)
      have h0 := HJ.out.not (i := 15) (by decide) (by decide) hl
      have c : w'.cell? ⟨C, 4, none⟩ = some (.int .i64 (c.clock)) := ((HJ.out.turn).blk HC.out HBC.out).cell 4 rfl
      clear h0 h4 h5 hg
      unfold OpY
      go_simp
      first | exact ⟨rfl, HJ.out.put (i := 15) (by decide) (by decide) (by decide) hl⟩ | exact ⟨Or.inr rfl, HJ.out.put (i := 15) (by decide) (by decide) (by decide) hl⟩
    · refine ⟨(fun g b h => by cases h), fun l w' hl hdp hJ hg ρ h1 h2 h3 h4 h5 => ?_⟩
      have HJ := hid hJ
      clear hJ
      have f11 : ρ (.tmp 11) = .int .i64 (v) := h4 8 11 (by kernel_rfl) (by kernel_rfl)
      have f18 : ρ (.tmp 18) = .int .i64 (c.clock) := h4 15 18 (by kernel_rfl) (by kernel_rfl)
      have h0 := HJ.out.not (i := 16) (by decide) (by decide) hl
      clear h0 h4 h5 hg
      unfold OpY
      go_simp
      first | exact ⟨rfl, HJ.out.put (i := 16) (by decide) (by decide) (by decide) hl⟩ | exact ⟨Or.inr rfl, HJ.out.put (i := 16) (by decide) (by decide) (by decide) hl⟩
    · refine ⟨(fun g b h => by cases h), fun l w' hl hdp hJ hg ρ h1 h2 h3 h4 h5 => ?_⟩
      have HJ := hid hJ
      clear hJ
      have f0 : ρ (.tmp 0) = .pointer (some ⟨L, 0, none⟩) := h5 0 (by kernel_rfl)
      have h0 := HJ.out.not (i := 17) (by decide) (by decide) hl
      clear h0 h4 h5 hg
      unfold OpY
      go_simp
      first | exact ⟨rfl, HJ.out.put (i := 17) (by decide) (by decide) (by decide) hl⟩ | exact ⟨Or.inr rfl, HJ.out.put (i := 17) (by decide) (by decide) (by decide) hl⟩
    · refine ⟨(fun g b h => by cases h), fun l w' hl hdp hJ hg ρ h1 h2 h3 h4 h5 => ?_⟩
      have HJ := hid hJ
      clear hJ
      have f20 : ρ (.tmp 20) = .pointer (some ⟨L, 0, none⟩) := h4 17 20 (by kernel_rfl) (by kernel_rfl)
      have h0 := HJ.out.not (i := 18) (by decide) (by decide) hl
      clear h0 h4 h5 hg
      unfold OpY
      go_simp
      first | exact ⟨rfl, HJ.out.put (i := 18) (by decide) (by decide) (by decide) hl⟩ | exact ⟨Or.inr rfl, HJ.out.put (i := 18) (by decide) (by decide) (by decide) hl⟩
    · refine ⟨(fun g b h => by cases h), fun l w' hl hdp hJ hg ρ h1 h2 h3 h4 h5 => ?_⟩
      have HJ := hid hJ
      clear hJ
      have f21 : ρ (.tmp 21) = .pointer (some ⟨L, 0, none⟩) := h4 18 21 (by kernel_rfl) (by kernel_rfl)
      have h0 := HJ.out.not (i := 19) (by decide) (by decide) hl
      clear h0 h4 h5 hg
      unfold OpY
      go_simp
      first | exact ⟨rfl, HJ.out.put (i := 19) (by decide) (by decide) (by decide) hl⟩ | exact ⟨Or.inr rfl, HJ.out.put (i := 19) (by decide) (by decide) (by decide) hl⟩
    · refine ⟨(fun g b h => by cases h), fun l w' hl hdp hJ hg ρ h1 h2 h3 h4 h5 => ?_⟩
      have HJ := hid hJ
      clear hJ
      have f22 : ρ (.tmp 22) = .pointer (some ⟨L, 0, none⟩) := h4 19 22 (by kernel_rfl) (by kernel_rfl)
      have h0 := HJ.out.not (i := 20) (by decide) (by decide) hl
      have c : w'.cell? ⟨L, 0, none⟩ = some (.pointer (some ⟨C, 0, none⟩)) := ((HJ.out.turn).blk HL.out HBL.out).cell 0 rfl
      clear h0 h4 h5 hg
      unfold OpY
      go_simp
      first | exact ⟨rfl, HJ.out.put (i := 20) (by decide) (by decide) (by decide) hl⟩ | exact ⟨Or.inr rfl, HJ.out.put (i := 20) (by decide) (by decide) (by decide) hl⟩
    · refine ⟨(fun g b h => by cases h), fun l w' hl hdp hJ hg ρ h1 h2 h3 h4 h5 => ?_⟩
      have HJ := hid hJ
      clear hJ
      have f23 : ρ (.tmp 23) = .pointer (some ⟨C, 0, none⟩) := h4 20 23 (by kernel_rfl) (by kernel_rfl)
      have h0 := HJ.out.not (i := 21) (by decide) (by decide) hl
      clear h0 h4 h5 hg
      unfold OpY
      go_simp
      first | exact ⟨rfl, HJ.out.put (i := 21) (by decide) (by decide) (by decide) hl⟩ | exact ⟨Or.inr rfl, HJ.out.put (i := 21) (by decide) (by decide) (by decide) hl⟩
    · refine ⟨(fun g b h => by cases h), fun l w' hl hdp hJ hg ρ h1 h2 h3 h4 h5 => ?_⟩
      have HJ := hid hJ
      clear hJ
      have f24 : ρ (.tmp 24) = .pointer (some ⟨C, 0, none⟩) := h4 21 24 (by kernel_rfl) (by kernel_rfl)
      have h0 := HJ.out.not (i := 22) (by decide) (by decide) hl
      clear h0 h4 h5 hg
      unfold OpY
      go_simp
      first | exact ⟨rfl, HJ.out.put (i := 22) (by decide) (by decide) (by decide) hl⟩ | exact ⟨Or.inr rfl, HJ.out.put (i := 22) (by decide) (by decide) (by decide) hl⟩
    · refine ⟨(fun g b h => by cases h), fun l w' hl hdp hJ hg ρ h1 h2 h3 h4 h5 => ?_⟩
      have HJ := hid hJ
      clear hJ
      have f25 : ρ (.tmp 25) = .pointer (some ⟨C, 4, none⟩) := h4 22 25 (by kernel_rfl) (by kernel_rfl)
      have h0 := HJ.out.not (i := 23) (by decide) (by decide) hl
      have c : w'.cell? ⟨C, 4, none⟩ = some (.int .i64 (c.clock)) := ((HJ.out.turn).blk HC.out HBC.out).cell 4 rfl
      clear h0 h4 h5 hg
      unfold OpY
      go_simp
      first | exact ⟨rfl, HJ.out.put (i := 23) (by decide) (by decide) (by decide) hl⟩ | exact ⟨Or.inr rfl, HJ.out.put (i := 23) (by decide) (by decide) (by decide) hl⟩
    · refine ⟨(fun g b h => by cases h), fun l w' hl hdp hJ hg ρ h1 h2 h3 h4 h5 => ?_⟩
      have HJ := hid hJ
      clear hJ
      have f26 : ρ (.tmp 26) = .int .i64 (c.clock) := h4 23 26 (by kernel_rfl) (by kernel_rfl)
      have h0 := HJ.out.not (i := 24) (by decide) (by decide) hl
      clear h0 h4 h5 hg
      unfold OpY
      go_simp
      first | exact ⟨rfl, HJ.out.put (i := 24) (by decide) (by decide) (by decide) hl⟩ | exact ⟨Or.inr rfl, HJ.out.put (i := 24) (by decide) (by decide) (by decide) hl⟩
    · refine ⟨(fun g b h => by cases h), fun l w' hl hdp hJ hg ρ h1 h2 h3 h4 h5 => ?_⟩
      have HJ := hid hJ
      clear hJ
      have f6 : ρ (.tmp 6) = .func (.func n) #[] vn := h4 3 6 (by kernel_rfl) (by kernel_rfl)
      have f19 : ρ (.tmp 19) = .int .i64 (v - c.clock) := h4 16 19 (by kernel_rfl) (by kernel_rfl)
      have f27 : ρ (.tmp 27) = .int .i64 (1099511627776 - c.clock) := h4 24 27 (by kernel_rfl) (by kernel_rfl)
      clear h4 h5 hg
      unfold OpY
      go_simp
      unfold OpR
      have h0 := HJ.out.pre hl
      subst h0
      refine (HN.out _ HA.out).mono ?_
      rintro e' w'' ⟨rfl, ha', ht'⟩
      first | exact ⟨_, rfl, rfl, HJ.out.call (by decide) (by decide) hl ha' ht'⟩ | exact ⟨_, rfl, Or.inr rfl, HJ.out.call (by decide) (by decide) hl ha' ht'⟩
    · refine ⟨(fun g b h => by cases h), fun l w' hl hdp hJ hg ρ h1 h2 h3 h4 h5 => ?_⟩
      have HJ := hid hJ
      clear hJ
      have f28 : ρ (.tmp 28) = .int .i64 (y.1) := h4 25 28 (by kernel_rfl) (by kernel_rfl)
      have hall : ∀ q, q < 27 → q ≠ 26 → l q = true := all_last (by kernel_rfl) hdp
      have HALL := hid hall
      clear hall h4 h5 hg
      unfold OpY
      go_simp
      first | exact ⟨rfl, HJ.out.last (by decide) HALL.out⟩ | exact ⟨Or.inr rfl, HJ.out.last (by decide) HALL.out⟩
  case hdone =>
    intro W1 hJ
    have HF := hid (hJ.mid rfl)
    clear hJ
    have hB1 := HF.out.2.blk HL.out HBL.out
    have hC1 := HF.out.2.blk HC.out HBC.out
    by_cases hy0 : y.1 = 0
    · have g1 : (y.1 == 0) = true := by simp [hy0]
      have d10 := hB1.cell 10 (v := .func (.func b) #[] vb) rfl
      have HB1 := hid hB1
      have HC1 := hid hC1
      have HY0 := hid hy0
      clear hB1 hC1 HN HA hy0
      go_wp2_with fail
      refine (HK.out.bad _ _ HF.out.1).mono ?_
      rintro e' W2 ⟨⟨rr, rfl⟩, ha2, ht2⟩
      have hB2 := ht2.blk HL.out HB1.out
      have hC2 := ht2.blk HC.out HC1.out
      have d0 := hB2.cell 0 (v := .pointer (some ⟨C, 0, none⟩)) rfl
      have c4 := hC2.cell 4 (v := .int .i64 c.clock) rfl
      have d5 := hB2.cell 5 (v := .int .i64 v) rfl
      have z5 := hB2.free 5
      have HB2 := hid hB2
      have HA2 := hid ha2
      have HT2 := hid (HF.out.2.trans ht2)
      clear hB2 hC2 ha2 ht2 d10
      go_wp2_with fail
      go_end0
      try rw [if_pos HY0.out]
      exact ⟨rfl, HK.out.keep _ _ _ HA2.out (fun k hk => Below.heap_setCell _ _ _ _ (fun e => HL.out (by have e' : k = L := e; rw [← e']; exact hk))), (HT2.out.mono (fun q hq => List.mem_cons_of_mem _ hq)).setCell (Or.inl (by simp)) _, HB2.out.set 5 _⟩
    · have g1 : (y.1 == 0) = false := by simp [hy0]
      have g2 : decide (y.1 = 0) = false := by simp [hy0]
      have d0 := hB1.cell 0 (v := .pointer (some ⟨C, 0, none⟩)) rfl
      have c4 := hC1.cell 4 (v := .int .i64 c.clock) rfl
      have d5 := hB1.cell 5 (v := .int .i64 v) rfl
      have z5 := hB1.free 5
      have HY0 := hid hy0
      have HB2 := hid hB1
      have HA2 := hid HF.out.1
      have HT2 := hid HF.out.2
      clear hB1 hC1 HN HA HF
      go_wp2_with fail
      go_end0
      try rw [if_neg HY0.out]
      exact ⟨rfl, HK.out.keep _ _ _ HA2.out (fun k hk => Below.heap_setCell _ _ _ _ (fun e => HL.out (by have e' : k = L := e; rw [← e']; exact hk))), (HT2.out.mono (fun q hq => List.mem_cons_of_mem _ hq)).setCell (Or.inl (by simp)) _, HB2.out.set 5 _⟩

set_option maxRecDepth 100000 in
set_option maxHeartbeats 4000000 in
theorem abort_any (hK : ClOk K ks At Px Ok n i b vn vi vb) (T V S : Int) (c : Cdr) (kind tx at_ v x why : Int) (th : Nat) (s : σ) (L C : Nat) (W : World) (hL : Blk W L (lineA C ⟨kind, (th : Int), tx, at_, v, x, why⟩ (clo n vn) (clo i vi) (clo b vb)) 83) (hC : Blk W C (cdrA T V S c) 74) (hA : At s W) (hLk : L ∉ ks) (hCk : C ∉ ks) (hLC : C ≠ L) (ho : Ok 2 s) (ha : Px at_) (hS : 1 ≤ S ∧ S ≤ 32) (hw : Px (why - 1)) (hw1 : 0 ≤ why ∧ why ≤ 255) (hy5 : (K.num s (why - 1) 5).1 ≤ 5) :
    Calls Tryd.prog 62 #[.pointer (some ⟨L, 0, none⟩)] W (LineP ks At n i b vn vi vb L C W (let y := K.num s (why - 1) 5; if y.1 + 1 = 6 then (⟨kind, (th : Int), tx, at_, v, x, y.1 + 1⟩, y.2) else let z := K.num y.2 at_ (S - 1); (⟨kind, (th : Int), tx, z.1, v, x, y.1 + 1⟩, z.2))) := by
  have HBL := hid hL
  have HBC := hid hC
  have HL := hid hLk
  have HC := hid hCk
  have HLC := hid hLC
  have HA := hid (hK.keep s W W.drew hA (fun _ _ => rfl))
  have HK := hid hK
  have hen := hK.en
  have hei := hK.ei
  have heb := hK.eb
  dsimp only
  have HN := hid (fun W' (h : At s W') => hK.num s (why - 1) 5 W' h (hK.okm _ _ ho) hw ⟨by omega, by omega⟩)
  have hz1 := hK.nb s (why - 1) 5 hw ⟨by omega, by omega⟩
  obtain ⟨y, hy⟩ : ∃ y, y = K.num s (why - 1) (5) := ⟨_, rfl⟩
  have ho1 := hK.okn 1 s (why - 1) 5 ho
  rw [← hy] at HN hz1 hy5 ho1 ⊢
  have HO1 := hid ho1
  clear ho1
  have j0 : IntKind.i64.wrap why = why := IntWalk.i64_in _ (by omega)
  have j1 : IntKind.i64.wrap (why - 1) = why - 1 := IntWalk.i64_in _ (by omega)
  have j2 : IntKind.i64.wrap (y.1 + 1) = y.1 + 1 := IntWalk.i64_in _ (by omega)
  have j3 : IntKind.u8.wrap (y.1 + 1) = y.1 + 1 := by simp only [IntKind.wrap, IntKind.bits, IntKind.signed]; simp; omega
  have HPA := hid ha
  have HSS := hid hS
  clear ha hS hw hw1 hy5 hy hz1
  clear hL hC hLk hCk hK hA hLC ho
  unfold LineP
  unfold clo
  go_enter Tryd.func62, Tryd.ntmps62
  go_wp2_with fail
  apply wp_region_knownJ (fun qq => ([.pointer (some ⟨L, 0, none⟩), .pointer (some ⟨L, 0, none⟩), .pointer (some ⟨L, 0, none⟩), .pointer (some ⟨L, 8, none⟩), .func (.func n) #[] vn, .pointer (some ⟨L, 0, none⟩), .pointer (some ⟨L, 0, none⟩), .pointer (some ⟨L, 1, none⟩), .pointer (some ⟨L, 7, none⟩), .int .u8 (why), .int .i64 (why), .int .i64 (why - 1), .int .i64 (y.1), .int .i64 (y.1 + 1), .int .u8 (y.1 + 1), .pointer (some ⟨L, 0, none⟩), .pointer (some ⟨L, 1, none⟩), .pointer (some ⟨L, 7, none⟩), undef] : List Value).getD qq undef) (LJ W ks At y.2 L (lineA C ⟨kind, (th : Int), tx, at_, v, x, y.1 + 1⟩ (clo n vn) (clo i vi) (clo b vb)) 83 19 12 18)
  focus (simp [putAll, dstOf, Act.put, List.getD]; rfl)
  case hm => kernel_rfl
  case hd => kernel_rfl
  case hb => kernel_rfl
  case hng => kernel_rfl
  case hsz => kernel_rfl
  case hext => exact fun l l' w h H => H.ext (by decide) (by decide) (fun i hi => h i hi)
  case h0 => exact LJ.start
  case hstep =>
    refine ⟨?_, ?_, ?_, ?_, ?_, ?_, ?_, ?_, ?_, ?_, ?_, ?_, ?_, ?_, ?_, ?_, ?_, ?_, ?_,  trivial⟩
    · refine ⟨(fun g b h => by cases h), fun l w' hl hdp hJ hg ρ h1 h2 h3 h4 h5 => ?_⟩
      have HJ := hid hJ
      clear hJ
      have f0 : ρ (.tmp 0) = .pointer (some ⟨L, 0, none⟩) := h5 0 (by kernel_rfl)
      have h0 := HJ.out.not (i := 0) (by decide) (by decide) hl
      clear h0 h4 h5 hg
      unfold OpY
      go_simp
      first | exact ⟨rfl, HJ.out.put (i := 0) (by decide) (by decide) (by decide) hl (fun e => absurd e (by decide)) (fun e => absurd e (by decide))⟩ | exact ⟨Or.inr rfl, HJ.out.put (i := 0) (by decide) (by decide) (by decide) hl (fun e => absurd e (by decide)) (fun e => absurd e (by decide))⟩
    · refine ⟨(fun g b h => by cases h), fun l w' hl hdp hJ hg ρ h1 h2 h3 h4 h5 => ?_⟩
      have HJ := hid hJ
      clear hJ
      have f0 : ρ (.tmp 0) = .pointer (some ⟨L, 0, none⟩) := h5 0 (by kernel_rfl)
      have h0 := HJ.out.not (i := 1) (by decide) (by decide) hl
      clear h0 h4 h5 hg
      unfold OpY
      go_simp
      first | exact ⟨rfl, HJ.out.put (i := 1) (by decide) (by decide) (by decide) hl (fun e => absurd e (by decide)) (fun e => absurd e (by decide))⟩ | exact ⟨Or.inr rfl, HJ.out.put (i := 1) (by decide) (by decide) (by decide) hl (fun e => absurd e (by decide)) (fun e => absurd e (by decide))⟩
    · refine ⟨(fun g b h => by cases h), fun l w' hl hdp hJ hg ρ h1 h2 h3 h4 h5 => ?_⟩
      have HJ := hid hJ
      clear hJ
      have f3 : ρ (.tmp 3) = .pointer (some ⟨L, 0, none⟩) := h4 1 3 (by kernel_rfl) (by kernel_rfl)
      have h0 := HJ.out.not (i := 2) (by decide) (by decide) hl
      clear h0 h4 h5 hg
      unfold OpY
      go_simp
      first | exact ⟨rfl, HJ.out.put (i := 2) (by decide) (by decide) (by decide) hl (fun e => absurd e (by decide)) (fun e => absurd e (by decide))⟩ | exact ⟨Or.inr rfl, HJ.out.put (i := 2) (by decide) (by decide) (by decide) hl (fun e => absurd e (by decide)) (fun e => absurd e (by decide))⟩
    · refine ⟨(fun g b h => by cases h), fun l w' hl hdp hJ hg ρ h1 h2 h3 h4 h5 => ?_⟩
      have HJ := hid hJ
      clear hJ
      have f4 : ρ (.tmp 4) = .pointer (some ⟨L, 0, none⟩) := h4 2 4 (by kernel_rfl) (by kernel_rfl)
      have h0 := HJ.out.not (i := 3) (by decide) (by decide) hl
      clear h0 h4 h5 hg
      unfold OpY
      go_simp
      first | exact ⟨rfl, HJ.out.put (i := 3) (by decide) (by decide) (by decide) hl (fun e => absurd e (by decide)) (fun e => absurd e (by decide))⟩ | exact ⟨Or.inr rfl, HJ.out.put (i := 3) (by decide) (by decide) (by decide) hl (fun e => absurd e (by decide)) (fun e => absurd e (by decide))⟩
    · refine ⟨(fun g b h => by cases h), fun l w' hl hdp hJ hg ρ h1 h2 h3 h4 h5 => ?_⟩
      have HJ := hid hJ
      clear hJ
      have f5 : ρ (.tmp 5) = .pointer (some ⟨L, 8, none⟩) := h4 3 5 (by kernel_rfl) (by kernel_rfl)
      have h0 := HJ.out.not (i := 4) (by decide) (by decide) hl
      have c : w'.cell? ⟨L, 8, none⟩ = some (.func (.func n) #[] vn) := ((HJ.out.turn h0).blk HL.out HBL.out).cell 8 rfl
      clear h0 h4 h5 hg
      unfold OpY
      go_simp
      first | exact ⟨rfl, HJ.out.put (i := 4) (by decide) (by decide) (by decide) hl (fun e => absurd e (by decide)) (fun e => absurd e (by decide))⟩ | exact ⟨Or.inr rfl, HJ.out.put (i := 4) (by decide) (by decide) (by decide) hl (fun e => absurd e (by decide)) (fun e => absurd e (by decide))⟩
    · refine ⟨(fun g b h => by cases h), fun l w' hl hdp hJ hg ρ h1 h2 h3 h4 h5 => ?_⟩
      have HJ := hid hJ
      clear hJ
      have f0 : ρ (.tmp 0) = .pointer (some ⟨L, 0, none⟩) := h5 0 (by kernel_rfl)
      have h0 := HJ.out.not (i := 5) (by decide) (by decide) hl
      clear h0 h4 h5 hg
      unfold OpY
      go_simp
      first | exact ⟨rfl, HJ.out.put (i := 5) (by decide) (by decide) (by decide) hl (fun e => absurd e (by decide)) (fun e => absurd e (by decide))⟩ | exact ⟨Or.inr rfl, HJ.out.put (i := 5) (by decide) (by decide) (by decide) hl (fun e => absurd e (by decide)) (fun e => absurd e (by decide))⟩
    · refine ⟨(fun g b h => by cases h), fun l w' hl hdp hJ hg ρ h1 h2 h3 h4 h5 => ?_⟩
      have HJ := hid hJ
      clear hJ
      have f7 : ρ (.tmp 7) = .pointer (some ⟨L, 0, none⟩) := h4 5 7 (by kernel_rfl) (by kernel_rfl)
      have h0 := HJ.out.not (i := 6) (by decide) (by decide) hl
      clear h0 h4 h5 hg
      unfold OpY
      go_simp
      first | exact ⟨rfl, HJ.out.put (i := 6) (by decide) (by decide) (by decide) hl (fun e => absurd e (by decide)) (fun e => absurd e (by decide))⟩ | exact ⟨Or.inr rfl, HJ.out.put (i := 6) (by decide) (by decide) (by decide) hl (fun e => absurd e (by decide)) (fun e => absurd e (by decide))⟩
    · refine ⟨(fun g b h => by cases h), fun l w' hl hdp hJ hg ρ h1 h2 h3 h4 h5 => ?_⟩
      have HJ := hid hJ
      clear hJ
      have f8 : ρ (.tmp 8) = .pointer (some ⟨L, 0, none⟩) := h4 6 8 (by kernel_rfl) (by kernel_rfl)
      have h0 := HJ.out.not (i := 7) (by decide) (by decide) hl
      clear h0 h4 h5 hg
      unfold OpY
      go_simp
      first | exact ⟨rfl, HJ.out.put (i := 7) (by decide) (by decide) (by decide) hl (fun e => absurd e (by decide)) (fun e => absurd e (by decide))⟩ | exact ⟨Or.inr rfl, HJ.out.put (i := 7) (by decide) (by decide) (by decide) hl (fun e => absurd e (by decide)) (fun e => absurd e (by decide))⟩
    · refine ⟨(fun g b h => by cases h), fun l w' hl hdp hJ hg ρ h1 h2 h3 h4 h5 => ?_⟩
      have HJ := hid hJ
      clear hJ
      have f9 : ρ (.tmp 9) = .pointer (some ⟨L, 1, none⟩) := h4 7 9 (by kernel_rfl) (by kernel_rfl)
      have h0 := HJ.out.not (i := 8) (by decide) (by decide) hl
      clear h0 h4 h5 hg
      unfold OpY
      go_simp
      first | exact ⟨rfl, HJ.out.put (i := 8) (by decide) (by decide) (by decide) hl (fun e => absurd e (by decide)) (fun e => absurd e (by decide))⟩ | exact ⟨Or.inr rfl, HJ.out.put (i := 8) (by decide) (by decide) (by decide) hl (fun e => absurd e (by decide)) (fun e => absurd e (by decide))⟩
    · refine ⟨(fun g b h => by cases h), fun l w' hl hdp hJ hg ρ h1 h2 h3 h4 h5 => ?_⟩
      have HJ := hid hJ
      clear hJ
      have f10 : ρ (.tmp 10) = .pointer (some ⟨L, 7, none⟩) := h4 8 10 (by kernel_rfl) (by kernel_rfl)
      have h0 := HJ.out.not (i := 9) (by decide) (by decide) hl
      have c : w'.cell? ⟨L, 7, none⟩ = some (.int .u8 (why)) := ((HJ.out.turn h0).blk HL.out HBL.out).cell 7 rfl
      clear h0 h4 h5 hg
      unfold OpY
      go_simp
      first | exact ⟨rfl, HJ.out.put (i := 9) (by decide) (by decide) (by decide) hl (fun e => absurd e (by decide)) (fun e => absurd e (by decide))⟩ | exact ⟨Or.inr rfl, HJ.out.put (i := 9) (by decide) (by decide) (by decide) hl (fun e => absurd e (by decide)) (fun e => absurd e (by decide))⟩
    · refine ⟨(fun g b h => by cases h), fun l w' hl hdp hJ hg ρ h1 h2 h3 h4 h5 => ?_⟩
      have HJ := hid hJ
      clear hJ
      have f11 : ρ (.tmp 11) = .int .u8 (why) := h4 9 11 (by kernel_rfl) (by kernel_rfl)
      have h0 := HJ.out.not (i := 10) (by decide) (by decide) hl
      clear h0 h4 h5 hg
      unfold OpY
      go_simp
      first | exact ⟨rfl, HJ.out.put (i := 10) (by decide) (by decide) (by decide) hl (fun e => absurd e (by decide)) (fun e => absurd e (by decide))⟩ | exact ⟨Or.inr rfl, HJ.out.put (i := 10) (by decide) (by decide) (by decide) hl (fun e => absurd e (by decide)) (fun e => absurd e (by decide))⟩
    · refine ⟨(fun g b h => by cases h), fun l w' hl hdp hJ hg ρ h1 h2 h3 h4 h5 => ?_⟩
      have HJ := hid hJ
      clear hJ
      have f12 : ρ (.tmp 12) = .int .i64 (why) := h4 10 12 (by kernel_rfl) (by kernel_rfl)
      have h0 := HJ.out.not (i := 11) (by decide) (by decide) hl
      clear h0 h4 h5 hg
      unfold OpY
      go_simp
      first | exact ⟨rfl, HJ.out.put (i := 11) (by decide) (by decide) (by decide) hl (fun e => absurd e (by decide)) (fun e => absurd e (by decide))⟩ | exact ⟨Or.inr rfl, HJ.out.put (i := 11) (by decide) (by decide) (by decide) hl (fun e => absurd e (by decide)) (fun e => absurd e (by decide))⟩
    · refine ⟨(fun g b h => by cases h), fun l w' hl hdp hJ hg ρ h1 h2 h3 h4 h5 => ?_⟩
      have HJ := hid hJ
      clear hJ
      have f6 : ρ (.tmp 6) = .func (.func n) #[] vn := h4 4 6 (by kernel_rfl) (by kernel_rfl)
      have f13 : ρ (.tmp 13) = .int .i64 (why - 1) := h4 11 13 (by kernel_rfl) (by kernel_rfl)
      clear h4 h5 hg
      unfold OpY
      go_simp
      unfold OpR
      have h0 := HJ.out.pre hl
      subst h0
      refine (HN.out _ HA.out).mono ?_
      rintro e' w'' ⟨rfl, ha', ht'⟩
      first | exact ⟨_, rfl, rfl, HJ.out.call (by decide) (by decide) hl (by decide) ha' ht'⟩ | exact ⟨_, rfl, Or.inr rfl, HJ.out.call (by decide) (by decide) hl (by decide) ha' ht'⟩
    · refine ⟨(fun g b h => by cases h), fun l w' hl hdp hJ hg ρ h1 h2 h3 h4 h5 => ?_⟩
      have HJ := hid hJ
      clear hJ
      have f14 : ρ (.tmp 14) = .int .i64 (y.1) := h4 12 14 (by kernel_rfl) (by kernel_rfl)
      have h0 := HJ.out.not (i := 13) (by decide) (by decide) hl
      clear h0 h4 h5 hg
      unfold OpY
      go_simp
      first | exact ⟨rfl, HJ.out.put (i := 13) (by decide) (by decide) (by decide) hl (fun e => absurd e (by decide)) (fun e => absurd e (by decide))⟩ | exact ⟨Or.inr rfl, HJ.out.put (i := 13) (by decide) (by decide) (by decide) hl (fun e => absurd e (by decide)) (fun e => absurd e (by decide))⟩
    · refine ⟨(fun g b h => by cases h), fun l w' hl hdp hJ hg ρ h1 h2 h3 h4 h5 => ?_⟩
      have HJ := hid hJ
      clear hJ
      have f15 : ρ (.tmp 15) = .int .i64 (y.1 + 1) := h4 13 15 (by kernel_rfl) (by kernel_rfl)
      have h0 := HJ.out.not (i := 14) (by decide) (by decide) hl
      clear h0 h4 h5 hg
      unfold OpY
      go_simp
      first | exact ⟨rfl, HJ.out.put (i := 14) (by decide) (by decide) (by decide) hl (fun e => absurd e (by decide)) (fun e => absurd e (by decide))⟩ | exact ⟨Or.inr rfl, HJ.out.put (i := 14) (by decide) (by decide) (by decide) hl (fun e => absurd e (by decide)) (fun e => absurd e (by decide))⟩
    · refine ⟨(fun g b h => by cases h), fun l w' hl hdp hJ hg ρ h1 h2 h3 h4 h5 => ?_⟩
      have HJ := hid hJ
      clear hJ
      have f2 : ρ (.tmp 2) = .pointer (some ⟨L, 0, none⟩) := h4 0 2 (by kernel_rfl) (by kernel_rfl)
      have h0 := HJ.out.not (i := 15) (by decide) (by decide) hl
      clear h0 h4 h5 hg
      unfold OpY
      go_simp
      first | exact ⟨rfl, HJ.out.put (i := 15) (by decide) (by decide) (by decide) hl (fun e => absurd e (by decide)) (fun e => absurd e (by decide))⟩ | exact ⟨Or.inr rfl, HJ.out.put (i := 15) (by decide) (by decide) (by decide) hl (fun e => absurd e (by decide)) (fun e => absurd e (by decide))⟩
    · refine ⟨(fun g b h => by cases h), fun l w' hl hdp hJ hg ρ h1 h2 h3 h4 h5 => ?_⟩
      have HJ := hid hJ
      clear hJ
      have f17 : ρ (.tmp 17) = .pointer (some ⟨L, 0, none⟩) := h4 15 17 (by kernel_rfl) (by kernel_rfl)
      have h0 := HJ.out.not (i := 16) (by decide) (by decide) hl
      clear h0 h4 h5 hg
      unfold OpY
      go_simp
      first | exact ⟨rfl, HJ.out.put (i := 16) (by decide) (by decide) (by decide) hl (fun e => absurd e (by decide)) (fun _ => hdp 15 (by kernel_rfl))⟩ | exact ⟨Or.inr rfl, HJ.out.put (i := 16) (by decide) (by decide) (by decide) hl (fun e => absurd e (by decide)) (fun _ => hdp 15 (by kernel_rfl))⟩
    · refine ⟨(fun g b h => by cases h), fun l w' hl hdp hJ hg ρ h1 h2 h3 h4 h5 => ?_⟩
      have HJ := hid hJ
      clear hJ
      have f18 : ρ (.tmp 18) = .pointer (some ⟨L, 1, none⟩) := h4 16 18 (by kernel_rfl) (by kernel_rfl)
      have h0 := HJ.out.not (i := 17) (by decide) (by decide) hl
      clear h0 h4 h5 hg
      unfold OpY
      go_simp
      first | exact ⟨rfl, HJ.out.put (i := 17) (by decide) (by decide) (by decide) hl (fun _ => hdp 16 (by kernel_rfl)) (fun e => absurd e (by decide))⟩ | exact ⟨Or.inr rfl, HJ.out.put (i := 17) (by decide) (by decide) (by decide) hl (fun _ => hdp 16 (by kernel_rfl)) (fun e => absurd e (by decide))⟩
    · refine ⟨(fun g b h => by cases h), fun l w' hl hdp hJ hg ρ h1 h2 h3 h4 h5 => ?_⟩
      have HJ := hid hJ
      clear hJ
      have f19 : ρ (.tmp 19) = .pointer (some ⟨L, 7, none⟩) := h4 17 19 (by kernel_rfl) (by kernel_rfl)
      have f16 : ρ (.tmp 16) = .int .u8 (y.1 + 1) := h4 14 16 (by kernel_rfl) (by kernel_rfl)
      have h15 := hdp 17 (by kernel_rfl)
      have h14 := HJ.out.d1 h15
      have h13 := HJ.out.d2 h14
      have hall : ∀ q, q < 19 → q ≠ 18 → l q = true := all_of (si := 18) h13 h14 (by kernel_rfl) hdp
      have h0 := hl
      have hb := (HJ.out.turn h0).blk HL.out HBL.out
      have c := hb.cell 7 rfl
      have z := hb.free 7
      have HALL := hid hall
      clear hall hb h0 h13 h14 h15 h4 h5 hg
      unfold OpY
      go_simp
      exact HJ.out.store HK.out.keep HL.out HBL.out (by decide) (by decide) (by decide) hl HALL.out rfl
  case hdone =>
    intro W1 hJ
    have HF := hid (hJ.fin rfl)
    clear hJ
    have HA1 := hid HF.out.1
    have HT1 := hid HF.out.2.1
    have HB1 := hid HF.out.2.2
    have HC1 := hid (HF.out.2.1.blk (by simp; exact ⟨HLC.out, HC.out⟩) HBC.out)
    have d7 := HB1.out.cell 7 (v := .int .u8 (y.1 + 1)) rfl
    clear HF HN HA HBL HBC
    by_cases h6 : y.1 + 1 = 6
    · have g1 : (y.1 + 1 != 6) = false := by simp [h6]
      have g2 : decide (y.1 + 1 = 6) = true := by simp [h6]
      have H6 := hid h6
      have HB6 := HB1
      rw [h6] at HB6
      clear h6
      go_wp2_with fail
      go_end0
      try rw [if_pos H6.out]
      first | exact ⟨rfl, HA1.out, HT1.out, HB1.out⟩ | exact ⟨rfl, HA1.out, HT1.out, HB6.out⟩
    · have g1 : (y.1 + 1 != 6) = true := by simp [h6]
      have g2 : decide (y.1 + 1 = 6) = false := by simp [h6]
      have H6 := hid h6
      have HST := hid (stripe_any HK.out T V S c kind tx at_ v x (y.1 + 1) th y.2 L C W1 HB1.out HC1.out HA1.out HL.out HC.out HLC.out HO1.out HPA.out HSS.out)
      clear h6
      go_wp2_with fail
      refine HST.out.mono ?_
      rintro e' W2 ⟨rfl, ha2, ht2, hb2⟩
      have HA2 := hid ha2
      have HT2 := hid (HT1.out.trans ht2)
      have HB2 := hid hb2
      clear ha2 ht2 hb2
      go_wp2_with fail
      go_end0
      try rw [if_neg H6.out]
      exact ⟨rfl, HA2.out, HT2.out, HB2.out⟩

theorem none_any (L : Nat) (W : World) : Calls Tryd.prog 63 #[.pointer (some ⟨L, 0, none⟩)] W fun e' W' => e' = .returned (.tuple #[]) ∧ W' = W := by
  go_enter Tryd.func63, Tryd.ntmps63
  go_wp2_with fail
  go_end0
  exact ⟨rfl, rfl⟩

end
end Go.Proofs.YtokkafiphchejaaDoor
