/-
  The methods of a line, for abstract closures (printed by gen_line2.py).
-/
import Derived.Test.YtokkafiphchejaaDoorDeL1
namespace Go.Proofs.YtokkafiphchejaaDoor
set_option linter.unusedVariables false
set_option linter.unusedSimpArgs false
set_option linter.unusedVariables false
open Go Go.RowKit
theorem all_of {o : Oper} {l : Nat → Bool} {n si : Nat} (h3 : l (si - 3) = true) (h2 : l (si - 2) = true) (h : (List.range n).all (fun i => decide (i = si) || decide (i = si - 2) || decide (i = si - 3) || (depsOf o).contains i) = true) (hdp : ∀ j, (depsOf o).contains j = true → l j = true) : ∀ i, i < n → i ≠ si → l i = true := by
  intro i hi hne
  have := List.all_eq_true.1 h i (List.mem_range.2 hi)
  simp only [Bool.or_eq_true, decide_eq_true_eq] at this
  rcases this with ((h1 | h1) | h1) | h1
  · exact absurd h1 hne
  · rw [h1]; exact h2
  · rw [h1]; exact h3
  · exact hdp i h1
/-- What a method tells. -/
def LineP {σ : Type} (ks : List Nat) (At : σ → World → Prop) (n i b : FuncId) (vn vi vb : Array Value) (L C : Nat) (W : World) (r : Ev × σ) (e' : Ending) (W' : World) : Prop := e' = .returned (.tuple #[]) ∧ At r.2 W' ∧ Turn (L :: ks) W W' ∧ Blk W' L (lineA C r.1 (clo n vn) (clo i vi) (clo b vb)) 83
section
variable {σ : Type} {K : Cl σ} {ks : List Nat} {At : σ → World → Prop} {Px : Int → Prop} {Ok : Nat → σ → Prop} {n i b : FuncId} {vn vi vb : Array Value}

theorem drewN_hp' (w : World) (n k : Nat) : (w.drewN n).drew.heap[k]? = w.heap[k]? := by
  have : (w.drewN n).heap = w.heap := by
    induction n with
    | zero => rfl
    | succ n ih => exact ih
  show (w.drewN n).heap[k]? = _
  rw [this]

set_option maxRecDepth 100000 in
set_option maxHeartbeats 4000000 in
theorem at_any (hK : ClOk K ks At Px Ok n i b vn vi vb) (T V S : Int) (c : Cdr) (kind tx at_ v x why : Int) (th : Nat) (most : Int) (s : σ) (L C : Nat) (W : World) (hL : Blk W L (lineA C ⟨kind, (th : Int), tx, at_, v, x, why⟩ (clo n vn) (clo i vi) (clo b vb)) 83) (hC : Blk W C (cdrA T V S c) 74) (hA : At s W) (hLk : L ∉ ks) (hCk : C ∉ ks) (hLC : C ≠ L) (ho : Ok 1 s) (ha : Px at_) (hm : 1 ≤ most ∧ most ≤ 4398046511104) :
    Calls Tryd.prog 75 #[.pointer (some ⟨L, 0, none⟩), .int .i64 most] W (LineP ks At n i b vn vi vb L C W (⟨kind, (th : Int), tx, (K.num s at_ (most - 1)).1, v, x, why⟩, (K.num s at_ (most - 1)).2)) := by
  have HBL := hid hL
  have HBC := hid hC
  have HL := hid hLk
  have HC := hid hCk
  have HLC := hid hLC
  have HA := hid (hK.keep s W W.drew hA (fun _ _ => rfl))
  have HK := hid hK
  have hen := hK.en
  have hei := hK.ei
  have heb := hK.eb
  have HN := hid (fun W' (h : At s W') => hK.num s at_ (most - 1) W' h (hK.okm _ _ ho) ha ⟨by omega, by omega⟩)
  have jm : IntKind.i64.wrap (most - 1) = most - 1 := IntWalk.i64_in _ (by omega)
  obtain ⟨y, hy⟩ : ∃ y, y = K.num s (at_) (most - 1) := ⟨_, rfl⟩
  rw [← hy] at HN ⊢
  clear ha hm hy
  clear hL hC hLk hCk hK hA hLC ho
  unfold LineP
  unfold clo
  go_enter Tryd.func75, Tryd.ntmps75
  go_wp2_with fail
  apply wp_region_knownJ (fun qq => ([.pointer (some ⟨L, 0, none⟩), .pointer (some ⟨L, 0, none⟩), .pointer (some ⟨L, 0, none⟩), .pointer (some ⟨L, 8, none⟩), .func (.func n) #[] vn, .pointer (some ⟨L, 0, none⟩), .pointer (some ⟨L, 0, none⟩), .pointer (some ⟨L, 1, none⟩), .pointer (some ⟨L, 4, none⟩), .int .i64 (at_), .int .i64 (most), .int .i64 (most - 1), .int .i64 (y.1), .pointer (some ⟨L, 0, none⟩), .pointer (some ⟨L, 1, none⟩), .pointer (some ⟨L, 4, none⟩), undef] : List Value).getD qq undef) (LJ W ks At y.2 L (lineA C ⟨kind, (th : Int), tx, y.1, v, x, why⟩ (clo n vn) (clo i vi) (clo b vb)) 83 17 12 16)
  focus (simp [putAll, dstOf, Act.put, List.getD]; rfl)
  case hm => kernel_rfl
  case hd => kernel_rfl
  case hb => kernel_rfl
  case hng => kernel_rfl
  case hsz => kernel_rfl
  case hext => exact fun l l' w h H => H.ext (by decide) (by decide) (fun i hi => h i hi)
  case h0 => exact LJ.start
  case hstep =>
    refine ⟨?_, ?_, ?_, ?_, ?_, ?_, ?_, ?_, ?_, ?_, ?_, ?_, ?_, ?_, ?_, ?_, ?_,  trivial⟩
    · refine ⟨(fun g b h => by cases h), fun l w' hl hdp hJ hg ρ h1 h2 h3 h4 h5 => ?_⟩
      have HJ := hid hJ
      clear hJ
      have f0 : ρ (.tmp 0) = .pointer (some ⟨L, 0, none⟩) := h5 0 (by kernel_rfl)
      have h0 := HJ.out.not (i := 0) (by decide) (by decide) hl
      clear h0 h4 h5 hg
      unfold OpY
      go_simp
      first | exact ⟨rfl, HJ.out.put (i := 0) (by decide) (by decide) (by decide) hl (fun e => absurd e (by decide)) (fun e => absurd e (by decide))⟩ | exact ⟨Or.inr rfl, HJ.out.put (i := 0) (by decide) (by decide) (by decide) hl (fun e => absurd e (by decide)) (fun e => absurd e (by decide))⟩
    · refine ⟨(fun g b h => by cases h), fun l w' hl hdp hJ hg ρ h1 h2 h3 h4 h5 => ?_⟩
      have HJ := hid hJ
      clear hJ
      have f0 : ρ (.tmp 0) = .pointer (some ⟨L, 0, none⟩) := h5 0 (by kernel_rfl)
      have h0 := HJ.out.not (i := 1) (by decide) (by decide) hl
      clear h0 h4 h5 hg
      unfold OpY
      go_simp
      first | exact ⟨rfl, HJ.out.put (i := 1) (by decide) (by decide) (by decide) hl (fun e => absurd e (by decide)) (fun e => absurd e (by decide))⟩ | exact ⟨Or.inr rfl, HJ.out.put (i := 1) (by decide) (by decide) (by decide) hl (fun e => absurd e (by decide)) (fun e => absurd e (by decide))⟩
    · refine ⟨(fun g b h => by cases h), fun l w' hl hdp hJ hg ρ h1 h2 h3 h4 h5 => ?_⟩
      have HJ := hid hJ
      clear hJ
      have f5 : ρ (.tmp 5) = .pointer (some ⟨L, 0, none⟩) := h4 1 5 (by kernel_rfl) (by kernel_rfl)
      have h0 := HJ.out.not (i := 2) (by decide) (by decide) hl
      clear h0 h4 h5 hg
      unfold OpY
      go_simp
      first | exact ⟨rfl, HJ.out.put (i := 2) (by decide) (by decide) (by decide) hl (fun e => absurd e (by decide)) (fun e => absurd e (by decide))⟩ | exact ⟨Or.inr rfl, HJ.out.put (i := 2) (by decide) (by decide) (by decide) hl (fun e => absurd e (by decide)) (fun e => absurd e (by decide))⟩
    · refine ⟨(fun g b h => by cases h), fun l w' hl hdp hJ hg ρ h1 h2 h3 h4 h5 => ?_⟩
      have HJ := hid hJ
      clear hJ
      have f6 : ρ (.tmp 6) = .pointer (some ⟨L, 0, none⟩) := h4 2 6 (by kernel_rfl) (by kernel_rfl)
      have h0 := HJ.out.not (i := 3) (by decide) (by decide) hl
      clear h0 h4 h5 hg
      unfold OpY
      go_simp
      first | exact ⟨rfl, HJ.out.put (i := 3) (by decide) (by decide) (by decide) hl (fun e => absurd e (by decide)) (fun e => absurd e (by decide))⟩ | exact ⟨Or.inr rfl, HJ.out.put (i := 3) (by decide) (by decide) (by decide) hl (fun e => absurd e (by decide)) (fun e => absurd e (by decide))⟩
    · refine ⟨(fun g b h => by cases h), fun l w' hl hdp hJ hg ρ h1 h2 h3 h4 h5 => ?_⟩
      have HJ := hid hJ
      clear hJ
      have f7 : ρ (.tmp 7) = .pointer (some ⟨L, 8, none⟩) := h4 3 7 (by kernel_rfl) (by kernel_rfl)
      have h0 := HJ.out.not (i := 4) (by decide) (by decide) hl
      have c : w'.cell? ⟨L, 8, none⟩ = some (.func (.func n) #[] vn) := ((HJ.out.turn h0).blk HL.out HBL.out).cell 8 rfl
      clear h0 h4 h5 hg
      unfold OpY
      go_simp
      first | exact ⟨rfl, HJ.out.put (i := 4) (by decide) (by decide) (by decide) hl (fun e => absurd e (by decide)) (fun e => absurd e (by decide))⟩ | exact ⟨Or.inr rfl, HJ.out.put (i := 4) (by decide) (by decide) (by decide) hl (fun e => absurd e (by decide)) (fun e => absurd e (by decide))⟩
    · refine ⟨(fun g b h => by cases h), fun l w' hl hdp hJ hg ρ h1 h2 h3 h4 h5 => ?_⟩
      have HJ := hid hJ
      clear hJ
      have f0 : ρ (.tmp 0) = .pointer (some ⟨L, 0, none⟩) := h5 0 (by kernel_rfl)
      have h0 := HJ.out.not (i := 5) (by decide) (by decide) hl
      clear h0 h4 h5 hg
      unfold OpY
      go_simp
      first | exact ⟨rfl, HJ.out.put (i := 5) (by decide) (by decide) (by decide) hl (fun e => absurd e (by decide)) (fun e => absurd e (by decide))⟩ | exact ⟨Or.inr rfl, HJ.out.put (i := 5) (by decide) (by decide) (by decide) hl (fun e => absurd e (by decide)) (fun e => absurd e (by decide))⟩
    · refine ⟨(fun g b h => by cases h), fun l w' hl hdp hJ hg ρ h1 h2 h3 h4 h5 => ?_⟩
      have HJ := hid hJ
      clear hJ
      have f9 : ρ (.tmp 9) = .pointer (some ⟨L, 0, none⟩) := h4 5 9 (by kernel_rfl) (by kernel_rfl)
      have h0 := HJ.out.not (i := 6) (by decide) (by decide) hl
      clear h0 h4 h5 hg
      unfold OpY
      go_simp
      first | exact ⟨rfl, HJ.out.put (i := 6) (by decide) (by decide) (by decide) hl (fun e => absurd e (by decide)) (fun e => absurd e (by decide))⟩ | exact ⟨Or.inr rfl, HJ.out.put (i := 6) (by decide) (by decide) (by decide) hl (fun e => absurd e (by decide)) (fun e => absurd e (by decide))⟩
    · refine ⟨(fun g b h => by cases h), fun l w' hl hdp hJ hg ρ h1 h2 h3 h4 h5 => ?_⟩
      have HJ := hid hJ
      clear hJ
      have f10 : ρ (.tmp 10) = .pointer (some ⟨L, 0, none⟩) := h4 6 10 (by kernel_rfl) (by kernel_rfl)
      have h0 := HJ.out.not (i := 7) (by decide) (by decide) hl
      clear h0 h4 h5 hg
      unfold OpY
      go_simp
      first | exact ⟨rfl, HJ.out.put (i := 7) (by decide) (by decide) (by decide) hl (fun e => absurd e (by decide)) (fun e => absurd e (by decide))⟩ | exact ⟨Or.inr rfl, HJ.out.put (i := 7) (by decide) (by decide) (by decide) hl (fun e => absurd e (by decide)) (fun e => absurd e (by decide))⟩
    · refine ⟨(fun g b h => by cases h), fun l w' hl hdp hJ hg ρ h1 h2 h3 h4 h5 => ?_⟩
      have HJ := hid hJ
      clear hJ
      have f11 : ρ (.tmp 11) = .pointer (some ⟨L, 1, none⟩) := h4 7 11 (by kernel_rfl) (by kernel_rfl)
      have h0 := HJ.out.not (i := 8) (by decide) (by decide) hl
      clear h0 h4 h5 hg
      unfold OpY
      go_simp
      first | exact ⟨rfl, HJ.out.put (i := 8) (by decide) (by decide) (by decide) hl (fun e => absurd e (by decide)) (fun e => absurd e (by decide))⟩ | exact ⟨Or.inr rfl, HJ.out.put (i := 8) (by decide) (by decide) (by decide) hl (fun e => absurd e (by decide)) (fun e => absurd e (by decide))⟩
    · refine ⟨(fun g b h => by cases h), fun l w' hl hdp hJ hg ρ h1 h2 h3 h4 h5 => ?_⟩
      have HJ := hid hJ
      clear hJ
      have f12 : ρ (.tmp 12) = .pointer (some ⟨L, 4, none⟩) := h4 8 12 (by kernel_rfl) (by kernel_rfl)
      have h0 := HJ.out.not (i := 9) (by decide) (by decide) hl
      have c : w'.cell? ⟨L, 4, none⟩ = some (.int .i64 (at_)) := ((HJ.out.turn h0).blk HL.out HBL.out).cell 4 rfl
      clear h0 h4 h5 hg
      unfold OpY
      go_simp
      first | exact ⟨rfl, HJ.out.put (i := 9) (by decide) (by decide) (by decide) hl (fun e => absurd e (by decide)) (fun e => absurd e (by decide))⟩ | exact ⟨Or.inr rfl, HJ.out.put (i := 9) (by decide) (by decide) (by decide) hl (fun e => absurd e (by decide)) (fun e => absurd e (by decide))⟩
    · refine ⟨(fun g b h => by cases h), fun l w' hl hdp hJ hg ρ h1 h2 h3 h4 h5 => ?_⟩
      have HJ := hid hJ
      clear hJ
      have f1 : ρ (.tmp 1) = .int .i64 (most) := h5 1 (by kernel_rfl)
      have h0 := HJ.out.not (i := 10) (by decide) (by decide) hl
      clear h0 h4 h5 hg
      unfold OpY
      go_simp
      first | exact ⟨rfl, HJ.out.put (i := 10) (by decide) (by decide) (by decide) hl (fun e => absurd e (by decide)) (fun e => absurd e (by decide))⟩ | exact ⟨Or.inr rfl, HJ.out.put (i := 10) (by decide) (by decide) (by decide) hl (fun e => absurd e (by decide)) (fun e => absurd e (by decide))⟩
    · refine ⟨(fun g b h => by cases h), fun l w' hl hdp hJ hg ρ h1 h2 h3 h4 h5 => ?_⟩
      have HJ := hid hJ
      clear hJ
      have f14 : ρ (.tmp 14) = .int .i64 (most) := h4 10 14 (by kernel_rfl) (by kernel_rfl)
      have h0 := HJ.out.not (i := 11) (by decide) (by decide) hl
      clear h0 h4 h5 hg
      unfold OpY
      go_simp
      first | exact ⟨rfl, HJ.out.put (i := 11) (by decide) (by decide) (by decide) hl (fun e => absurd e (by decide)) (fun e => absurd e (by decide))⟩ | exact ⟨Or.inr rfl, HJ.out.put (i := 11) (by decide) (by decide) (by decide) hl (fun e => absurd e (by decide)) (fun e => absurd e (by decide))⟩
    · refine ⟨(fun g b h => by cases h), fun l w' hl hdp hJ hg ρ h1 h2 h3 h4 h5 => ?_⟩
      have HJ := hid hJ
      clear hJ
      have f8 : ρ (.tmp 8) = .func (.func n) #[] vn := h4 4 8 (by kernel_rfl) (by kernel_rfl)
      have f13 : ρ (.tmp 13) = .int .i64 (at_) := h4 9 13 (by kernel_rfl) (by kernel_rfl)
      have f15 : ρ (.tmp 15) = .int .i64 (most - 1) := h4 11 15 (by kernel_rfl) (by kernel_rfl)
      clear h4 h5 hg
      unfold OpY
      go_simp
      unfold OpR
      have h0 := HJ.out.pre hl
      subst h0
      refine (HN.out _ HA.out).mono ?_
      rintro e' w'' ⟨rfl, ha', ht'⟩
      first | exact ⟨_, rfl, rfl, HJ.out.call (by decide) (by decide) hl (by decide) ha' ht'⟩ | exact ⟨_, rfl, Or.inr rfl, HJ.out.call (by decide) (by decide) hl (by decide) ha' ht'⟩
    · refine ⟨(fun g b h => by cases h), fun l w' hl hdp hJ hg ρ h1 h2 h3 h4 h5 => ?_⟩
      have HJ := hid hJ
      clear hJ
      have f4 : ρ (.tmp 4) = .pointer (some ⟨L, 0, none⟩) := h4 0 4 (by kernel_rfl) (by kernel_rfl)
      have h0 := HJ.out.not (i := 13) (by decide) (by decide) hl
      clear h0 h4 h5 hg
      unfold OpY
      go_simp
      first | exact ⟨rfl, HJ.out.put (i := 13) (by decide) (by decide) (by decide) hl (fun e => absurd e (by decide)) (fun e => absurd e (by decide))⟩ | exact ⟨Or.inr rfl, HJ.out.put (i := 13) (by decide) (by decide) (by decide) hl (fun e => absurd e (by decide)) (fun e => absurd e (by decide))⟩
    · refine ⟨(fun g b h => by cases h), fun l w' hl hdp hJ hg ρ h1 h2 h3 h4 h5 => ?_⟩
      have HJ := hid hJ
      clear hJ
      have f17 : ρ (.tmp 17) = .pointer (some ⟨L, 0, none⟩) := h4 13 17 (by kernel_rfl) (by kernel_rfl)
      have h0 := HJ.out.not (i := 14) (by decide) (by decide) hl
      clear h0 h4 h5 hg
      unfold OpY
      go_simp
      first | exact ⟨rfl, HJ.out.put (i := 14) (by decide) (by decide) (by decide) hl (fun e => absurd e (by decide)) (fun _ => hdp 13 (by kernel_rfl))⟩ | exact ⟨Or.inr rfl, HJ.out.put (i := 14) (by decide) (by decide) (by decide) hl (fun e => absurd e (by decide)) (fun _ => hdp 13 (by kernel_rfl))⟩
    · refine ⟨(fun g b h => by cases h), fun l w' hl hdp hJ hg ρ h1 h2 h3 h4 h5 => ?_⟩
      have HJ := hid hJ
      clear hJ
      have f18 : ρ (.tmp 18) = .pointer (some ⟨L, 1, none⟩) := h4 14 18 (by kernel_rfl) (by kernel_rfl)
      have h0 := HJ.out.not (i := 15) (by decide) (by decide) hl
      clear h0 h4 h5 hg
      unfold OpY
      go_simp
      first | exact ⟨rfl, HJ.out.put (i := 15) (by decide) (by decide) (by decide) hl (fun _ => hdp 14 (by kernel_rfl)) (fun e => absurd e (by decide))⟩ | exact ⟨Or.inr rfl, HJ.out.put (i := 15) (by decide) (by decide) (by decide) hl (fun _ => hdp 14 (by kernel_rfl)) (fun e => absurd e (by decide))⟩
    · refine ⟨(fun g b h => by cases h), fun l w' hl hdp hJ hg ρ h1 h2 h3 h4 h5 => ?_⟩
      have HJ := hid hJ
      clear hJ
      have f19 : ρ (.tmp 19) = .pointer (some ⟨L, 4, none⟩) := h4 15 19 (by kernel_rfl) (by kernel_rfl)
      have f16 : ρ (.tmp 16) = .int .i64 (y.1) := h4 12 16 (by kernel_rfl) (by kernel_rfl)
      have h15 := hdp 15 (by kernel_rfl)
      have h14 := HJ.out.d1 h15
      have h13 := HJ.out.d2 h14
      have hall : ∀ q, q < 17 → q ≠ 16 → l q = true := all_of (si := 16) h13 h14 (by kernel_rfl) hdp
      have h0 := hl
      have hb := (HJ.out.turn h0).blk HL.out HBL.out
      have c := hb.cell 4 rfl
      have z := hb.free 4
      have HALL := hid hall
      clear hall hb h0 h13 h14 h15 h4 h5 hg
      unfold OpY
      go_simp
      exact HJ.out.store HK.out.keep HL.out HBL.out (by decide) (by decide) (by decide) hl HALL.out rfl
  case hdone =>
    intro W' hJ
    have HF := hid (hJ.fin rfl)
    clear hJ
    go_wp2_with fail
    go_end0
    exact ⟨rfl, HF.out⟩

set_option maxRecDepth 100000 in
set_option maxHeartbeats 4000000 in
theorem stripe_any (hK : ClOk K ks At Px Ok n i b vn vi vb) (T V S : Int) (c : Cdr) (kind tx at_ v x why : Int) (th : Nat) (s : σ) (L C : Nat) (W : World) (hL : Blk W L (lineA C ⟨kind, (th : Int), tx, at_, v, x, why⟩ (clo n vn) (clo i vi) (clo b vb)) 83) (hC : Blk W C (cdrA T V S c) 74) (hA : At s W) (hLk : L ∉ ks) (hCk : C ∉ ks) (hLC : C ≠ L) (ho : Ok 1 s) (ha : Px at_) (hS : 1 ≤ S ∧ S ≤ 32) :
    Calls Tryd.prog 59 #[.pointer (some ⟨L, 0, none⟩)] W (LineP ks At n i b vn vi vb L C W (⟨kind, (th : Int), tx, (K.num s at_ (S - 1)).1, v, x, why⟩, (K.num s at_ (S - 1)).2)) := by
  have HBL := hid hL
  have HBC := hid hC
  have HL := hid hLk
  have HC := hid hCk
  have HLC := hid hLC
  have HA := hid (hK.keep s W W.drew hA (fun _ _ => rfl))
  have HK := hid hK
  have hen := hK.en
  have hei := hK.ei
  have heb := hK.eb
  have HAT := hid (at_any hK T V S c kind tx at_ v x why th S s L C W hL hC hA hLk hCk hLC (hK.okm _ _ ho) ha ⟨by omega, by omega⟩)
  have d0 := hL.cell 0 (v := .pointer (some ⟨C, 0, none⟩)) rfl
  have c2 := hC.cell 2 (v := .int .i64 S) rfl
  clear ha hS
  clear hL hC hLk hCk hK hA hLC ho
  unfold LineP
  unfold clo
  go_enter Tryd.func59, Tryd.ntmps59
  go_wp2_with fail
  refine HAT.out.mono ?_
  rintro e' W' ⟨rfl, HF⟩
  have HF := hid HF
  go_wp2_with fail
  go_end0
  exact ⟨rfl, HF.out⟩

set_option maxRecDepth 100000 in
set_option maxHeartbeats 4000000 in
theorem begin_any (hK : ClOk K ks At Px Ok n i b vn vi vb) (T V S : Int) (c : Cdr) (kind tx at_ v x why : Int) (th : Nat) (s : σ) (L C : Nat) (W : World) (hL : Blk W L (lineA C ⟨kind, (th : Int), tx, at_, v, x, why⟩ (clo n vn) (clo i vi) (clo b vb)) 83) (hC : Blk W C (cdrA T V S c) 74) (hA : At s W) (hLk : L ∉ ks) (hCk : C ∉ ks) (hLC : C ≠ L) (ho : Ok 2 s) (ha : Px tx) (hv : Px (v - c.clock)) (h1 : 0 ≤ v ∧ v ≤ 1099511627776) (h2 : 0 ≤ c.clock ∧ c.clock ≤ 1099511627776) :
    Calls Tryd.prog 56 #[.pointer (some ⟨L, 0, none⟩)] W (LineP ks At n i b vn vi vb L C W (let y := K.num s tx 5; let z := K.num y.2 (v - c.clock) (maxClockN - c.clock); (⟨kind, (th : Int), y.1, at_, c.clock + z.1, x, why⟩, z.2))) := by
  have HBL := hid hL
  have HBC := hid hC
  have HL := hid hLk
  have HC := hid hCk
  have HLC := hid hLC
  have HA := hid (hK.keep s W W.drew hA (fun _ _ => rfl))
  have HK := hid hK
  have hen := hK.en
  have hei := hK.ei
  have heb := hK.eb
  dsimp only
  unfold maxClockN
  have HN := hid (fun W' (h : At s W') => hK.num s tx 5 W' h (hK.okm _ _ ho) ha ⟨by omega, by omega⟩)
  obtain ⟨y, hy⟩ : ∃ y, y = K.num s (tx) (5) := ⟨_, rfl⟩
  have ho1 := hK.okn 1 s tx 5 ho
  rw [← hy] at HN ho1 ⊢
  have HN1 := hid (fun W' (h : At y.2 W') => hK.num y.2 (v - c.clock) (1099511627776 - c.clock) W' h ho1 hv ⟨by omega, by omega⟩)
  have hz1 := hK.nb y.2 (v - c.clock) (1099511627776 - c.clock) hv ⟨by omega, by omega⟩
  obtain ⟨z, hz⟩ : ∃ z, z = K.num y.2 (v - c.clock) (1099511627776 - c.clock) := ⟨_, rfl⟩
  rw [← hz] at HN1 hz1 ⊢
  have j1 : IntKind.i64.wrap (v - c.clock) = v - c.clock := IntWalk.i64_in _ (by omega)
  have j2 : IntKind.i64.wrap (1099511627776 - c.clock) = 1099511627776 - c.clock := IntWalk.i64_in _ (by omega)
  have j3 : IntKind.i64.wrap (c.clock + z.1) = c.clock + z.1 := IntWalk.i64_in _ (by omega)
  clear ha hv h1 h2 hy hz hz1
  clear hL hC hLk hCk hK hA hLC ho
  unfold LineP
  unfold clo
  go_enter Tryd.func56, Tryd.ntmps56
  go_wp2_with fail
  apply wp_region_knownJ (fun qq => ([.pointer (some ⟨L, 0, none⟩), .pointer (some ⟨L, 0, none⟩), .pointer (some ⟨L, 0, none⟩), .pointer (some ⟨L, 8, none⟩), .func (.func n) #[] vn, .pointer (some ⟨L, 0, none⟩), .pointer (some ⟨L, 0, none⟩), .pointer (some ⟨L, 1, none⟩), .pointer (some ⟨L, 3, none⟩), .int .i64 (tx), .int .i64 (y.1), .pointer (some ⟨L, 0, none⟩), .pointer (some ⟨L, 1, none⟩), .pointer (some ⟨L, 3, none⟩), undef] : List Value).getD qq undef) (LJ W ks At y.2 L (lineA C ⟨kind, (th : Int), y.1, at_, v, x, why⟩ (clo n vn) (clo i vi) (clo b vb)) 83 15 10 14)
  focus (simp [putAll, dstOf, Act.put, List.getD]; rfl)
  case hm => kernel_rfl
  case hd => kernel_rfl
  case hb => kernel_rfl
  case hng => kernel_rfl
  case hsz => kernel_rfl
  case hext => exact fun l l' w h H => H.ext (by decide) (by decide) (fun i hi => h i hi)
  case h0 => exact LJ.start
  case hstep =>
    refine ⟨?_, ?_, ?_, ?_, ?_, ?_, ?_, ?_, ?_, ?_, ?_, ?_, ?_, ?_, ?_,  trivial⟩
    · refine ⟨(fun g b h => by cases h), fun l w' hl hdp hJ hg ρ h1 h2 h3 h4 h5 => ?_⟩
      have HJ := hid hJ
      clear hJ
      have f0 : ρ (.tmp 0) = .pointer (some ⟨L, 0, none⟩) := h5 0 (by kernel_rfl)
      have h0 := HJ.out.not (i := 0) (by decide) (by decide) hl
      clear h0 h4 h5 hg
      unfold OpY
      go_simp
      first | exact ⟨rfl, HJ.out.put (i := 0) (by decide) (by decide) (by decide) hl (fun e => absurd e (by decide)) (fun e => absurd e (by decide))⟩ | exact ⟨Or.inr rfl, HJ.out.put (i := 0) (by decide) (by decide) (by decide) hl (fun e => absurd e (by decide)) (fun e => absurd e (by decide))⟩
    · refine ⟨(fun g b h => by cases h), fun l w' hl hdp hJ hg ρ h1 h2 h3 h4 h5 => ?_⟩
      have HJ := hid hJ
      clear hJ
      have f0 : ρ (.tmp 0) = .pointer (some ⟨L, 0, none⟩) := h5 0 (by kernel_rfl)
      have h0 := HJ.out.not (i := 1) (by decide) (by decide) hl
      clear h0 h4 h5 hg
      unfold OpY
      go_simp
      first | exact ⟨rfl, HJ.out.put (i := 1) (by decide) (by decide) (by decide) hl (fun e => absurd e (by decide)) (fun e => absurd e (by decide))⟩ | exact ⟨Or.inr rfl, HJ.out.put (i := 1) (by decide) (by decide) (by decide) hl (fun e => absurd e (by decide)) (fun e => absurd e (by decide))⟩
    · refine ⟨(fun g b h => by cases h), fun l w' hl hdp hJ hg ρ h1 h2 h3 h4 h5 => ?_⟩
      have HJ := hid hJ
      clear hJ
      have f3 : ρ (.tmp 3) = .pointer (some ⟨L, 0, none⟩) := h4 1 3 (by kernel_rfl) (by kernel_rfl)
      have h0 := HJ.out.not (i := 2) (by decide) (by decide) hl
      clear h0 h4 h5 hg
      unfold OpY
      go_simp
      first | exact ⟨rfl, HJ.out.put (i := 2) (by decide) (by decide) (by decide) hl (fun e => absurd e (by decide)) (fun e => absurd e (by decide))⟩ | exact ⟨Or.inr rfl, HJ.out.put (i := 2) (by decide) (by decide) (by decide) hl (fun e => absurd e (by decide)) (fun e => absurd e (by decide))⟩
    · refine ⟨(fun g b h => by cases h), fun l w' hl hdp hJ hg ρ h1 h2 h3 h4 h5 => ?_⟩
      have HJ := hid hJ
      clear hJ
      have f4 : ρ (.tmp 4) = .pointer (some ⟨L, 0, none⟩) := h4 2 4 (by kernel_rfl) (by kernel_rfl)
      have h0 := HJ.out.not (i := 3) (by decide) (by decide) hl
      clear h0 h4 h5 hg
      unfold OpY
      go_simp
      first | exact ⟨rfl, HJ.out.put (i := 3) (by decide) (by decide) (by decide) hl (fun e => absurd e (by decide)) (fun e => absurd e (by decide))⟩ | exact ⟨Or.inr rfl, HJ.out.put (i := 3) (by decide) (by decide) (by decide) hl (fun e => absurd e (by decide)) (fun e => absurd e (by decide))⟩
    · refine ⟨(fun g b h => by cases h), fun l w' hl hdp hJ hg ρ h1 h2 h3 h4 h5 => ?_⟩
      have HJ := hid hJ
      clear hJ
      have f5 : ρ (.tmp 5) = .pointer (some ⟨L, 8, none⟩) := h4 3 5 (by kernel_rfl) (by kernel_rfl)
      have h0 := HJ.out.not (i := 4) (by decide) (by decide) hl
      have c : w'.cell? ⟨L, 8, none⟩ = some (.func (.func n) #[] vn) := ((HJ.out.turn h0).blk HL.out HBL.out).cell 8 rfl
      clear h0 h4 h5 hg
      unfold OpY
      go_simp
      first | exact ⟨rfl, HJ.out.put (i := 4) (by decide) (by decide) (by decide) hl (fun e => absurd e (by decide)) (fun e => absurd e (by decide))⟩ | exact ⟨Or.inr rfl, HJ.out.put (i := 4) (by decide) (by decide) (by decide) hl (fun e => absurd e (by decide)) (fun e => absurd e (by decide))⟩
    · refine ⟨(fun g b h => by cases h), fun l w' hl hdp hJ hg ρ h1 h2 h3 h4 h5 => ?_⟩
      have HJ := hid hJ
      clear hJ
      have f0 : ρ (.tmp 0) = .pointer (some ⟨L, 0, none⟩) := h5 0 (by kernel_rfl)
      have h0 := HJ.out.not (i := 5) (by decide) (by decide) hl
      clear h0 h4 h5 hg
      unfold OpY
      go_simp
      first | exact ⟨rfl, HJ.out.put (i := 5) (by decide) (by decide) (by decide) hl (fun e => absurd e (by decide)) (fun e => absurd e (by decide))⟩ | exact ⟨Or.inr rfl, HJ.out.put (i := 5) (by decide) (by decide) (by decide) hl (fun e => absurd e (by decide)) (fun e => absurd e (by decide))⟩
    · refine ⟨(fun g b h => by cases h), fun l w' hl hdp hJ hg ρ h1 h2 h3 h4 h5 => ?_⟩
      have HJ := hid hJ
      clear hJ
      have f7 : ρ (.tmp 7) = .pointer (some ⟨L, 0, none⟩) := h4 5 7 (by kernel_rfl) (by kernel_rfl)
      have h0 := HJ.out.not (i := 6) (by decide) (by decide) hl
      clear h0 h4 h5 hg
      unfold OpY
      go_simp
      first | exact ⟨rfl, HJ.out.put (i := 6) (by decide) (by decide) (by decide) hl (fun e => absurd e (by decide)) (fun e => absurd e (by decide))⟩ | exact ⟨Or.inr rfl, HJ.out.put (i := 6) (by decide) (by decide) (by decide) hl (fun e => absurd e (by decide)) (fun e => absurd e (by decide))⟩
    · refine ⟨(fun g b h => by cases h), fun l w' hl hdp hJ hg ρ h1 h2 h3 h4 h5 => ?_⟩
      have HJ := hid hJ
      clear hJ
      have f8 : ρ (.tmp 8) = .pointer (some ⟨L, 0, none⟩) := h4 6 8 (by kernel_rfl) (by kernel_rfl)
      have h0 := HJ.out.not (i := 7) (by decide) (by decide) hl
      clear h0 h4 h5 hg
      unfold OpY
      go_simp
      first | exact ⟨rfl, HJ.out.put (i := 7) (by decide) (by decide) (by decide) hl (fun e => absurd e (by decide)) (fun e => absurd e (by decide))⟩ | exact ⟨Or.inr rfl, HJ.out.put (i := 7) (by decide) (by decide) (by decide) hl (fun e => absurd e (by decide)) (fun e => absurd e (by decide))⟩
    · refine ⟨(fun g b h => by cases h), fun l w' hl hdp hJ hg ρ h1 h2 h3 h4 h5 => ?_⟩
      have HJ := hid hJ
      clear hJ
      have f9 : ρ (.tmp 9) = .pointer (some ⟨L, 1, none⟩) := h4 7 9 (by kernel_rfl) (by kernel_rfl)
      have h0 := HJ.out.not (i := 8) (by decide) (by decide) hl
      clear h0 h4 h5 hg
      unfold OpY
      go_simp
      first | exact ⟨rfl, HJ.out.put (i := 8) (by decide) (by decide) (by decide) hl (fun e => absurd e (by decide)) (fun e => absurd e (by decide))⟩ | exact ⟨Or.inr rfl, HJ.out.put (i := 8) (by decide) (by decide) (by decide) hl (fun e => absurd e (by decide)) (fun e => absurd e (by decide))⟩
    · refine ⟨(fun g b h => by cases h), fun l w' hl hdp hJ hg ρ h1 h2 h3 h4 h5 => ?_⟩
      have HJ := hid hJ
      clear hJ
      have f10 : ρ (.tmp 10) = .pointer (some ⟨L, 3, none⟩) := h4 8 10 (by kernel_rfl) (by kernel_rfl)
      have h0 := HJ.out.not (i := 9) (by decide) (by decide) hl
      have c : w'.cell? ⟨L, 3, none⟩ = some (.int .i64 (tx)) := ((HJ.out.turn h0).blk HL.out HBL.out).cell 3 rfl
      clear h0 h4 h5 hg
      unfold OpY
      go_simp
      first | exact ⟨rfl, HJ.out.put (i := 9) (by decide) (by decide) (by decide) hl (fun e => absurd e (by decide)) (fun e => absurd e (by decide))⟩ | exact ⟨Or.inr rfl, HJ.out.put (i := 9) (by decide) (by decide) (by decide) hl (fun e => absurd e (by decide)) (fun e => absurd e (by decide))⟩
    · refine ⟨(fun g b h => by cases h), fun l w' hl hdp hJ hg ρ h1 h2 h3 h4 h5 => ?_⟩
      have HJ := hid hJ
      clear hJ
      have f6 : ρ (.tmp 6) = .func (.func n) #[] vn := h4 4 6 (by kernel_rfl) (by kernel_rfl)
      have f11 : ρ (.tmp 11) = .int .i64 (tx) := h4 9 11 (by kernel_rfl) (by kernel_rfl)
      clear h4 h5 hg
      unfold OpY
      go_simp
      unfold OpR
      have h0 := HJ.out.pre hl
      subst h0
      refine (HN.out _ HA.out).mono ?_
      rintro e' w'' ⟨rfl, ha', ht'⟩
      first | exact ⟨_, rfl, rfl, HJ.out.call (by decide) (by decide) hl (by decide) ha' ht'⟩ | exact ⟨_, rfl, Or.inr rfl, HJ.out.call (by decide) (by decide) hl (by decide) ha' ht'⟩
    · refine ⟨(fun g b h => by cases h), fun l w' hl hdp hJ hg ρ h1 h2 h3 h4 h5 => ?_⟩
      have HJ := hid hJ
      clear hJ
      have f2 : ρ (.tmp 2) = .pointer (some ⟨L, 0, none⟩) := h4 0 2 (by kernel_rfl) (by kernel_rfl)
      have h0 := HJ.out.not (i := 11) (by decide) (by decide) hl
      clear h0 h4 h5 hg
      unfold OpY
      go_simp
      first | exact ⟨rfl, HJ.out.put (i := 11) (by decide) (by decide) (by decide) hl (fun e => absurd e (by decide)) (fun e => absurd e (by decide))⟩ | exact ⟨Or.inr rfl, HJ.out.put (i := 11) (by decide) (by decide) (by decide) hl (fun e => absurd e (by decide)) (fun e => absurd e (by decide))⟩
    · refine ⟨(fun g b h => by cases h), fun l w' hl hdp hJ hg ρ h1 h2 h3 h4 h5 => ?_⟩
      have HJ := hid hJ
      clear hJ
      have f13 : ρ (.tmp 13) = .pointer (some ⟨L, 0, none⟩) := h4 11 13 (by kernel_rfl) (by kernel_rfl)
      have h0 := HJ.out.not (i := 12) (by decide) (by decide) hl
      clear h0 h4 h5 hg
      unfold OpY
      go_simp
      first | exact ⟨rfl, HJ.out.put (i := 12) (by decide) (by decide) (by decide) hl (fun e => absurd e (by decide)) (fun _ => hdp 11 (by kernel_rfl))⟩ | exact ⟨Or.inr rfl, HJ.out.put (i := 12) (by decide) (by decide) (by decide) hl (fun e => absurd e (by decide)) (fun _ => hdp 11 (by kernel_rfl))⟩
    · refine ⟨(fun g b h => by cases h), fun l w' hl hdp hJ hg ρ h1 h2 h3 h4 h5 => ?_⟩
      have HJ := hid hJ
      clear hJ
      have f14 : ρ (.tmp 14) = .pointer (some ⟨L, 1, none⟩) := h4 12 14 (by kernel_rfl) (by kernel_rfl)
      have h0 := HJ.out.not (i := 13) (by decide) (by decide) hl
      clear h0 h4 h5 hg
      unfold OpY
      go_simp
      first | exact ⟨rfl, HJ.out.put (i := 13) (by decide) (by decide) (by decide) hl (fun _ => hdp 12 (by kernel_rfl)) (fun e => absurd e (by decide))⟩ | exact ⟨Or.inr rfl, HJ.out.put (i := 13) (by decide) (by decide) (by decide) hl (fun _ => hdp 12 (by kernel_rfl)) (fun e => absurd e (by decide))⟩
    · refine ⟨(fun g b h => by cases h), fun l w' hl hdp hJ hg ρ h1 h2 h3 h4 h5 => ?_⟩
      have HJ := hid hJ
      clear hJ
      have f15 : ρ (.tmp 15) = .pointer (some ⟨L, 3, none⟩) := h4 13 15 (by kernel_rfl) (by kernel_rfl)
      have f12 : ρ (.tmp 12) = .int .i64 (y.1) := h4 10 12 (by kernel_rfl) (by kernel_rfl)
      have h15 := hdp 13 (by kernel_rfl)
      have h14 := HJ.out.d1 h15
      have h13 := HJ.out.d2 h14
      have hall : ∀ q, q < 15 → q ≠ 14 → l q = true := all_of (si := 14) h13 h14 (by kernel_rfl) hdp
      have h0 := hl
      have hb := (HJ.out.turn h0).blk HL.out HBL.out
      have c := hb.cell 3 rfl
      have z := hb.free 3
      have HALL := hid hall
      clear hall hb h0 h13 h14 h15 h4 h5 hg
      unfold OpY
      go_simp
      exact HJ.out.store HK.out.keep HL.out HBL.out (by decide) (by decide) (by decide) hl HALL.out rfl
  case hdone =>
    intro W1 hJ
    have HF := hid (hJ.fin rfl)
    clear hJ
    have HA1 := hid (HK.out.keep _ W1 W1.drew HF.out.1 (fun _ _ => rfl))
    have HBL1 := hid HF.out.2.2
    have HT1 := hid HF.out.2.1
    have HBC1 := hid (HF.out.2.1.blk (by simp; exact ⟨HLC.out, HC.out⟩) HBC.out)
    clear HF HN HA HBL HBC
    go_wp2_with fail
    apply wp_region_knownJ (fun qq => ([.pointer (some ⟨L, 0, none⟩), .pointer (some ⟨L, 0, none⟩), .pointer (some ⟨L, 0, none⟩), .pointer (some ⟨L, 0, none⟩), .pointer (some ⟨C, 0, none⟩), .pointer (some ⟨C, 0, none⟩), .pointer (some ⟨C, 4, none⟩), .int .i64 (c.clock), .pointer (some ⟨L, 0, none⟩), .pointer (some ⟨L, 0, none⟩), .pointer (some ⟨L, 8, none⟩), .func (.func n) #[] vn, .pointer (some ⟨L, 0, none⟩), .pointer (some ⟨L, 0, none⟩), .pointer (some ⟨L, 1, none⟩), .pointer (some ⟨L, 5, none⟩), .int .i64 (v), .pointer (some ⟨L, 0, none⟩), .pointer (some ⟨L, 0, none⟩), .pointer (some ⟨L, 0, none⟩), .pointer (some ⟨C, 0, none⟩), .pointer (some ⟨C, 0, none⟩), .pointer (some ⟨C, 4, none⟩), .int .i64 (c.clock), .int .i64 (v - c.clock), .pointer (some ⟨L, 0, none⟩), .pointer (some ⟨L, 0, none⟩), .pointer (some ⟨L, 0, none⟩), .pointer (some ⟨C, 0, none⟩), .pointer (some ⟨C, 0, none⟩), .pointer (some ⟨C, 4, none⟩), .int .i64 (c.clock), .int .i64 (1099511627776 - c.clock), .int .i64 (z.1), .int .i64 (c.clock + z.1), .pointer (some ⟨L, 0, none⟩), .pointer (some ⟨L, 1, none⟩), .pointer (some ⟨L, 5, none⟩), undef] : List Value).getD qq undef) (LJ W1 ks At z.2 L (lineA C ⟨kind, (th : Int), y.1, at_, c.clock + z.1, x, why⟩ (clo n vn) (clo i vi) (clo b vb)) 83 39 33 38)
    focus (simp [putAll, dstOf, Act.put, List.getD]; rfl)
    case hm => kernel_rfl
    case hd => kernel_rfl
    case hb => kernel_rfl
    case hng => kernel_rfl
    case hsz => kernel_rfl
    case hext => exact fun l l' w h H => H.ext (by decide) (by decide) (fun i hi => h i hi)
    case h0 => exact LJ.start
    case hstep =>
      refine ⟨?_, ?_, ?_, ?_, ?_, ?_, ?_, ?_, ?_, ?_, ?_, ?_, ?_, ?_, ?_, ?_, ?_, ?_, ?_, ?_, ?_, ?_, ?_, ?_, ?_, ?_, ?_, ?_, ?_, ?_, ?_, ?_, ?_, ?_, ?_, ?_, ?_, ?_, ?_,  trivial⟩
      · refine ⟨(fun g b h => by cases h), fun l w' hl hdp hJ hg ρ h1 h2 h3 h4 h5 => ?_⟩
        have HJ := hid hJ
        clear hJ
        have f0 : ρ (.tmp 0) = .pointer (some ⟨L, 0, none⟩) := h5 0 (by kernel_rfl)
        have h0 := HJ.out.not (i := 0) (by decide) (by decide) hl
        clear h0 h4 h5 hg
        unfold OpY
        go_simp
        first | exact ⟨rfl, HJ.out.put (i := 0) (by decide) (by decide) (by decide) hl (fun e => absurd e (by decide)) (fun e => absurd e (by decide))⟩ | exact ⟨Or.inr rfl, HJ.out.put (i := 0) (by decide) (by decide) (by decide) hl (fun e => absurd e (by decide)) (fun e => absurd e (by decide))⟩
      · refine ⟨(fun g b h => by cases h), fun l w' hl hdp hJ hg ρ h1 h2 h3 h4 h5 => ?_⟩
        have HJ := hid hJ
        clear hJ
        have f0 : ρ (.tmp 0) = .pointer (some ⟨L, 0, none⟩) := h5 0 (by kernel_rfl)
        have h0 := HJ.out.not (i := 1) (by decide) (by decide) hl
        clear h0 h4 h5 hg
        unfold OpY
        go_simp
        first | exact ⟨rfl, HJ.out.put (i := 1) (by decide) (by decide) (by decide) hl (fun e => absurd e (by decide)) (fun e => absurd e (by decide))⟩ | exact ⟨Or.inr rfl, HJ.out.put (i := 1) (by decide) (by decide) (by decide) hl (fun e => absurd e (by decide)) (fun e => absurd e (by decide))⟩
      · refine ⟨(fun g b h => by cases h), fun l w' hl hdp hJ hg ρ h1 h2 h3 h4 h5 => ?_⟩
        have HJ := hid hJ
        clear hJ
        have f17 : ρ (.tmp 17) = .pointer (some ⟨L, 0, none⟩) := h4 1 17 (by kernel_rfl) (by kernel_rfl)
        have h0 := HJ.out.not (i := 2) (by decide) (by decide) hl
        clear h0 h4 h5 hg
        unfold OpY
        go_simp
        first | exact ⟨rfl, HJ.out.put (i := 2) (by decide) (by decide) (by decide) hl (fun e => absurd e (by decide)) (fun e => absurd e (by decide))⟩ | exact ⟨Or.inr rfl, HJ.out.put (i := 2) (by decide) (by decide) (by decide) hl (fun e => absurd e (by decide)) (fun e => absurd e (by decide))⟩
      · refine ⟨(fun g b h => by cases h), fun l w' hl hdp hJ hg ρ h1 h2 h3 h4 h5 => ?_⟩
        have HJ := hid hJ
        clear hJ
        have f18 : ρ (.tmp 18) = .pointer (some ⟨L, 0, none⟩) := h4 2 18 (by kernel_rfl) (by kernel_rfl)
        have h0 := HJ.out.not (i := 3) (by decide) (by decide) hl
        clear h0 h4 h5 hg
        unfold OpY
        go_simp
        first | exact ⟨rfl, HJ.out.put (i := 3) (by decide) (by decide) (by decide) hl (fun e => absurd e (by decide)) (fun e => absurd e (by decide))⟩ | exact ⟨Or.inr rfl, HJ.out.put (i := 3) (by decide) (by decide) (by decide) hl (fun e => absurd e (by decide)) (fun e => absurd e (by decide))⟩
      · refine ⟨(fun g b h => by cases h), fun l w' hl hdp hJ hg ρ h1 h2 h3 h4 h5 => ?_⟩
        have HJ := hid hJ
        clear hJ
        have f19 : ρ (.tmp 19) = .pointer (some ⟨L, 0, none⟩) := h4 3 19 (by kernel_rfl) (by kernel_rfl)
        have h0 := HJ.out.not (i := 4) (by decide) (by decide) hl
        have c : w'.cell? ⟨L, 0, none⟩ = some (.pointer (some ⟨C, 0, none⟩)) := ((HJ.out.turn h0).blk HL.out HBL1.out).cell 0 rfl
        clear h0 h4 h5 hg
        unfold OpY
        go_simp
        first | exact ⟨rfl, HJ.out.put (i := 4) (by decide) (by decide) (by decide) hl (fun e => absurd e (by decide)) (fun e => absurd e (by decide))⟩ | exact ⟨Or.inr rfl, HJ.out.put (i := 4) (by decide) (by decide) (by decide) hl (fun e => absurd e (by decide)) (fun e => absurd e (by decide))⟩
      · refine ⟨(fun g b h => by cases h), fun l w' hl hdp hJ hg ρ h1 h2 h3 h4 h5 => ?_⟩
        have HJ := hid hJ
        clear hJ
        have f20 : ρ (.tmp 20) = .pointer (some ⟨C, 0, none⟩) := h4 4 20 (by kernel_rfl) (by kernel_rfl)
        have h0 := HJ.out.not (i := 5) (by decide) (by decide) hl
        clear h0 h4 h5 hg
        unfold OpY
        go_simp
        first | exact ⟨rfl, HJ.out.put (i := 5) (by decide) (by decide) (by decide) hl (fun e => absurd e (by decide)) (fun e => absurd e (by decide))⟩ | exact ⟨Or.inr rfl, HJ.out.put (i := 5) (by decide) (by decide) (by decide) hl (fun e => absurd e (by decide)) (fun e => absurd e (by decide))⟩
      · refine ⟨(fun g b h => by cases h), fun l w' hl hdp hJ hg ρ h1 h2 h3 h4 h5 => ?_⟩
        have HJ := hid hJ
        clear hJ
        have f21 : ρ (.tmp 21) = .pointer (some ⟨C, 0, none⟩) := h4 5 21 (by kernel_rfl) (by kernel_rfl)
        have h0 := HJ.out.not (i := 6) (by decide) (by decide) hl
        clear h0 h4 h5 hg
        unfold OpY
        go_simp
        first | exact ⟨rfl, HJ.out.put (i := 6) (by decide) (by decide) (by decide) hl (fun e => absurd e (by decide)) (fun e => absurd e (by decide))⟩ | exact ⟨Or.inr rfl, HJ.out.put (i := 6) (by decide) (by decide) (by decide) hl (fun e => absurd e (by decide)) (fun e => absurd e (by decide))⟩
      · refine ⟨(fun g b h => by cases h), fun l w' hl hdp hJ hg ρ h1 h2 h3 h4 h5 => ?_⟩
        have HJ := hid hJ
        clear hJ
        have f22 : ρ (.tmp 22) = .pointer (some ⟨C, 4, none⟩) := h4 6 22 (by kernel_rfl) (by kernel_rfl)
        have h0 := HJ.out.not (i := 7) (by decide) (by decide) hl
        have c : w'.cell? ⟨C, 4, none⟩ = some (.int .i64 (c.clock)) := ((HJ.out.turn h0).blk HC.out HBC1.out).cell 4 rfl
        clear h0 h4 h5 hg
        unfold OpY
        go_simp
        first | exact ⟨rfl, HJ.out.put (i := 7) (by decide) (by decide) (by decide) hl (fun e => absurd e (by decide)) (fun e => absurd e (by decide))⟩ | exact ⟨Or.inr rfl, HJ.out.put (i := 7) (by decide) (by decide) (by decide) hl (fun e => absurd e (by decide)) (fun e => absurd e (by decide))⟩
      · refine ⟨(fun g b h => by cases h), fun l w' hl hdp hJ hg ρ h1 h2 h3 h4 h5 => ?_⟩
        have HJ := hid hJ
        clear hJ
        have f0 : ρ (.tmp 0) = .pointer (some ⟨L, 0, none⟩) := h5 0 (by kernel_rfl)
        have h0 := HJ.out.not (i := 8) (by decide) (by decide) hl
        clear h0 h4 h5 hg
        unfold OpY
        go_simp
        first | exact ⟨rfl, HJ.out.put (i := 8) (by decide) (by decide) (by decide) hl (fun e => absurd e (by decide)) (fun e => absurd e (by decide))⟩ | exact ⟨Or.inr rfl, HJ.out.put (i := 8) (by decide) (by decide) (by decide) hl (fun e => absurd e (by decide)) (fun e => absurd e (by decide))⟩
      · refine ⟨(fun g b h => by cases h), fun l w' hl hdp hJ hg ρ h1 h2 h3 h4 h5 => ?_⟩
        have HJ := hid hJ
        clear hJ
        have f24 : ρ (.tmp 24) = .pointer (some ⟨L, 0, none⟩) := h4 8 24 (by kernel_rfl) (by kernel_rfl)
        have h0 := HJ.out.not (i := 9) (by decide) (by decide) hl
        clear h0 h4 h5 hg
        unfold OpY
        go_simp
        first | exact ⟨rfl, HJ.out.put (i := 9) (by decide) (by decide) (by decide) hl (fun e => absurd e (by decide)) (fun e => absurd e (by decide))⟩ | exact ⟨Or.inr rfl, HJ.out.put (i := 9) (by decide) (by decide) (by decide) hl (fun e => absurd e (by decide)) (fun e => absurd e (by decide))⟩
      · refine ⟨(fun g b h => by cases h), fun l w' hl hdp hJ hg ρ h1 h2 h3 h4 h5 => ?_⟩
        have HJ := hid hJ
        clear hJ
        have f25 : ρ (.tmp 25) = .pointer (some ⟨L, 0, none⟩) := h4 9 25 (by kernel_rfl) (by kernel_rfl)
        have h0 := HJ.out.not (i := 10) (by decide) (by decide) hl
        clear h0 h4 h5 hg
        unfold OpY
        go_simp
        first | exact ⟨rfl, HJ.out.put (i := 10) (by decide) (by decide) (by decide) hl (fun e => absurd e (by decide)) (fun e => absurd e (by decide))⟩ | exact ⟨Or.inr rfl, HJ.out.put (i := 10) (by decide) (by decide) (by decide) hl (fun e => absurd e (by decide)) (fun e => absurd e (by decide))⟩
      · refine ⟨(fun g b h => by cases h), fun l w' hl hdp hJ hg ρ h1 h2 h3 h4 h5 => ?_⟩
        have HJ := hid hJ
        clear hJ
        have f26 : ρ (.tmp 26) = .pointer (some ⟨L, 8, none⟩) := h4 10 26 (by kernel_rfl) (by kernel_rfl)
        have h0 := HJ.out.not (i := 11) (by decide) (by decide) hl
        have c : w'.cell? ⟨L, 8, none⟩ = some (.func (.func n) #[] vn) := ((HJ.out.turn h0).blk HL.out HBL1.out).cell 8 rfl
        clear h0 h4 h5 hg
        unfold OpY
        go_simp
        first | exact ⟨rfl, HJ.out.put (i := 11) (by decide) (by decide) (by decide) hl (fun e => absurd e (by decide)) (fun e => absurd e (by decide))⟩ | exact ⟨Or.inr rfl, HJ.out.put (i := 11) (by decide) (by decide) (by decide) hl (fun e => absurd e (by decide)) (fun e => absurd e (by decide))⟩
      · refine ⟨(fun g b h => by cases h), fun l w' hl hdp hJ hg ρ h1 h2 h3 h4 h5 => ?_⟩
        have HJ := hid hJ
        clear hJ
        have f0 : ρ (.tmp 0) = .pointer (some ⟨L, 0, none⟩) := h5 0 (by kernel_rfl)
        have h0 := HJ.out.not (i := 12) (by decide) (by decide) hl
        clear h0 h4 h5 hg
        unfold OpY
        go_simp
        first | exact ⟨rfl, HJ.out.put (i := 12) (by decide) (by decide) (by decide) hl (fun e => absurd e (by decide)) (fun e => absurd e (by decide))⟩ | exact ⟨Or.inr rfl, HJ.out.put (i := 12) (by decide) (by decide) (by decide) hl (fun e => absurd e (by decide)) (fun e => absurd e (by decide))⟩
      · refine ⟨(fun g b h => by cases h), fun l w' hl hdp hJ hg ρ h1 h2 h3 h4 h5 => ?_⟩
        have HJ := hid hJ
        clear hJ
        have f28 : ρ (.tmp 28) = .pointer (some ⟨L, 0, none⟩) := h4 12 28 (by kernel_rfl) (by kernel_rfl)
        have h0 := HJ.out.not (i := 13) (by decide) (by decide) hl
        clear h0 h4 h5 hg
        unfold OpY
        go_simp
        first | exact ⟨rfl, HJ.out.put (i := 13) (by decide) (by decide) (by decide) hl (fun e => absurd e (by decide)) (fun e => absurd e (by decide))⟩ | exact ⟨Or.inr rfl, HJ.out.put (i := 13) (by decide) (by decide) (by decide) hl (fun e => absurd e (by decide)) (fun e => absurd e (by decide))⟩
      · refine ⟨(fun g b h => by cases h), fun l w' hl hdp hJ hg ρ h1 h2 h3 h4 h5 => ?_⟩
        have HJ := hid hJ
        clear hJ
        have f29 : ρ (.tmp 29) = .pointer (some ⟨L, 0, none⟩) := h4 13 29 (by kernel_rfl) (by kernel_rfl)
        have h0 := HJ.out.not (i := 14) (by decide) (by decide) hl
        clear h0 h4 h5 hg
        unfold OpY
        go_simp
        first | exact ⟨rfl, HJ.out.put (i := 14) (by decide) (by decide) (by decide) hl (fun e => absurd e (by decide)) (fun e => absurd e (by decide))⟩ | exact ⟨Or.inr rfl, HJ.out.put (i := 14) (by decide) (by decide) (by decide) hl (fun e => absurd e (by decide)) (fun e => absurd e (by decide))⟩
      · refine ⟨(fun g b h => by cases h), fun l w' hl hdp hJ hg ρ h1 h2 h3 h4 h5 => ?_⟩
        have HJ := hid hJ
        clear hJ
        have f30 : ρ (.tmp 30) = .pointer (some ⟨L, 1, none⟩) := h4 14 30 (by kernel_rfl) (by kernel_rfl)
        have h0 := HJ.out.not (i := 15) (by decide) (by decide) hl
        clear h0 h4 h5 hg
        unfold OpY
        go_simp
        first | exact ⟨rfl, HJ.out.put (i := 15) (by decide) (by decide) (by decide) hl (fun e => absurd e (by decide)) (fun e => absurd e (by decide))⟩ | exact ⟨Or.inr rfl, HJ.out.put (i := 15) (by decide) (by decide) (by decide) hl (fun e => absurd e (by decide)) (fun e => absurd e (by decide))⟩
      · refine ⟨(fun g b h => by cases h), fun l w' hl hdp hJ hg ρ h1 h2 h3 h4 h5 => ?_⟩
        have HJ := hid hJ
        clear hJ
        have f31 : ρ (.tmp 31) = .pointer (some ⟨L, 5, none⟩) := h4 15 31 (by kernel_rfl) (by kernel_rfl)
        have h0 := HJ.out.not (i := 16) (by decide) (by decide) hl
        have c : w'.cell? ⟨L, 5, none⟩ = some (.int .i64 (v)) := ((HJ.out.turn h0).blk HL.out HBL1.out).cell 5 rfl
        clear h0 h4 h5 hg
        unfold OpY
        go_simp
        first | exact ⟨rfl, HJ.out.put (i := 16) (by decide) (by decide) (by decide) hl (fun e => absurd e (by decide)) (fun e => absurd e (by decide))⟩ | exact ⟨Or.inr rfl, HJ.out.put (i := 16) (by decide) (by decide) (by decide) hl (fun e => absurd e (by decide)) (fun e => absurd e (by decide))⟩
      · refine ⟨(fun g b h => by cases h), fun l w' hl hdp hJ hg ρ h1 h2 h3 h4 h5 => ?_⟩
        have HJ := hid hJ
        clear hJ
        have f0 : ρ (.tmp 0) = .pointer (some ⟨L, 0, none⟩) := h5 0 (by kernel_rfl)
        have h0 := HJ.out.not (i := 17) (by decide) (by decide) hl
        clear h0 h4 h5 hg
        unfold OpY
        go_simp
        first | exact ⟨rfl, HJ.out.put (i := 17) (by decide) (by decide) (by decide) hl (fun e => absurd e (by decide)) (fun e => absurd e (by decide))⟩ | exact ⟨Or.inr rfl, HJ.out.put (i := 17) (by decide) (by decide) (by decide) hl (fun e => absurd e (by decide)) (fun e => absurd e (by decide))⟩
      · refine ⟨(fun g b h => by cases h), fun l w' hl hdp hJ hg ρ h1 h2 h3 h4 h5 => ?_⟩
        have HJ := hid hJ
        clear hJ
        have f33 : ρ (.tmp 33) = .pointer (some ⟨L, 0, none⟩) := h4 17 33 (by kernel_rfl) (by kernel_rfl)
        have h0 := HJ.out.not (i := 18) (by decide) (by decide) hl
        clear h0 h4 h5 hg
        unfold OpY
        go_simp
        first | exact ⟨rfl, HJ.out.put (i := 18) (by decide) (by decide) (by decide) hl (fun e => absurd e (by decide)) (fun e => absurd e (by decide))⟩ | exact ⟨Or.inr rfl, HJ.out.put (i := 18) (by decide) (by decide) (by decide) hl (fun e => absurd e (by decide)) (fun e => absurd e (by decide))⟩
      · refine ⟨(fun g b h => by cases h), fun l w' hl hdp hJ hg ρ h1 h2 h3 h4 h5 => ?_⟩
        have HJ := hid hJ
        clear hJ
        have f34 : ρ (.tmp 34) = .pointer (some ⟨L, 0, none⟩) := h4 18 34 (by kernel_rfl) (by kernel_rfl)
        have h0 := HJ.out.not (i := 19) (by decide) (by decide) hl
        clear h0 h4 h5 hg
        unfold OpY
        go_simp
        first | exact ⟨rfl, HJ.out.put (i := 19) (by decide) (by decide) (by decide) hl (fun e => absurd e (by decide)) (fun e => absurd e (by decide))⟩ | exact ⟨Or.inr rfl, HJ.out.put (i := 19) (by decide) (by decide) (by decide) hl (fun e => absurd e (by decide)) (fun e => absurd e (by decide))⟩
      · refine ⟨(fun g b h => by cases h), fun l w' hl hdp hJ hg ρ h1 h2 h3 h4 h5 => ?_⟩
        have HJ := hid hJ
        clear hJ
        have f35 : ρ (.tmp 35) = .pointer (some ⟨L, 0, none⟩) := h4 19 35 (by kernel_rfl) (by kernel_rfl)
        have h0 := HJ.out.not (i := 20) (by decide) (by decide) hl
        have c : w'.cell? ⟨L, 0, none⟩ = some (.pointer (some ⟨C, 0, none⟩)) := ((HJ.out.turn h0).blk HL.out HBL1.out).cell 0 rfl
        clear h0 h4 h5 hg
        unfold OpY
        go_simp
        first | exact ⟨rfl, HJ.out.put (i := 20) (by decide) (by decide) (by decide) hl (fun e => absurd e (by decide)) (fun e => absurd e (by decide))⟩ | exact ⟨Or.inr rfl, HJ.out.put (i := 20) (by decide) (by decide) (by decide) hl (fun e => absurd e (by decide)) (fun e => absurd e (by decide))⟩
      · refine ⟨(fun g b h => by cases h), fun l w' hl hdp hJ hg ρ h1 h2 h3 h4 h5 => ?_⟩
        have HJ := hid hJ
        clear hJ
        have f36 : ρ (.tmp 36) = .pointer (some ⟨C, 0, none⟩) := h4 20 36 (by kernel_rfl) (by kernel_rfl)
        have h0 := HJ.out.not (i := 21) (by decide) (by decide) hl
        clear h0 h4 h5 hg
        unfold OpY
        go_simp
        first | exact ⟨rfl, HJ.out.put (i := 21) (by decide) (by decide) (by decide) hl (fun e => absurd e (by decide)) (fun e => absurd e (by decide))⟩ | exact ⟨Or.inr rfl, HJ.out.put (i := 21) (by decide) (by decide) (by decide) hl (fun e => absurd e (by decide)) (fun e => absurd e (by decide))⟩
      · refine ⟨(fun g b h => by cases h), fun l w' hl hdp hJ hg ρ h1 h2 h3 h4 h5 => ?_⟩
        have HJ := hid hJ
        clear hJ
        have f37 : ρ (.tmp 37) = .pointer (some ⟨C, 0, none⟩) := h4 21 37 (by kernel_rfl) (by kernel_rfl)
        have h0 := HJ.out.not (i := 22) (by decide) (by decide) hl
        clear h0 h4 h5 hg
        unfold OpY
        go_simp
        first | exact ⟨rfl, HJ.out.put (i := 22) (by decide) (by decide) (by decide) hl (fun e => absurd e (by decide)) (fun e => absurd e (by decide))⟩ | exact ⟨Or.inr rfl, HJ.out.put (i := 22) (by decide) (by decide) (by decide) hl (fun e => absurd e (by decide)) (fun e => absurd e (by decide))⟩
      · refine ⟨(fun g b h => by cases h), fun l w' hl hdp hJ hg ρ h1 h2 h3 h4 h5 => ?_⟩
        have HJ := hid hJ
        clear hJ
        have f38 : ρ (.tmp 38) = .pointer (some ⟨C, 4, none⟩) := h4 22 38 (by kernel_rfl) (by kernel_rfl)
        have h0 := HJ.out.not (i := 23) (by decide) (by decide) hl
        have c : w'.cell? ⟨C, 4, none⟩ = some (.int .i64 (c.clock)) := ((HJ.out.turn h0).blk HC.out HBC1.out).cell 4 rfl
        clear h0 h4 h5 hg
        unfold OpY
        go_simp
        first | exact ⟨rfl, HJ.out.put (i := 23) (by decide) (by decide) (by decide) hl (fun e => absurd e (by decide)) (fun e => absurd e (by decide))⟩ | exact ⟨Or.inr rfl, HJ.out.put (i := 23) (by decide) (by decide) (by decide) hl (fun e => absurd e (by decide)) (fun e => absurd e (by decide))⟩
      · refine ⟨(fun g b h => by cases h), fun l w' hl hdp hJ hg ρ h1 h2 h3 h4 h5 => ?_⟩
        have HJ := hid hJ
        clear hJ
        have f32 : ρ (.tmp 32) = .int .i64 (v) := h4 16 32 (by kernel_rfl) (by kernel_rfl)
        have f39 : ρ (.tmp 39) = .int .i64 (c.clock) := h4 23 39 (by kernel_rfl) (by kernel_rfl)
        have h0 := HJ.out.not (i := 24) (by decide) (by decide) hl
        clear h0 h4 h5 hg
        unfold OpY
        go_simp
        first | exact ⟨rfl, HJ.out.put (i := 24) (by decide) (by decide) (by decide) hl (fun e => absurd e (by decide)) (fun e => absurd e (by decide))⟩ | exact ⟨Or.inr rfl, HJ.out.put (i := 24) (by decide) (by decide) (by decide) hl (fun e => absurd e (by decide)) (fun e => absurd e (by decide))⟩
      · refine ⟨(fun g b h => by cases h), fun l w' hl hdp hJ hg ρ h1 h2 h3 h4 h5 => ?_⟩
        have HJ := hid hJ
        clear hJ
        have f0 : ρ (.tmp 0) = .pointer (some ⟨L, 0, none⟩) := h5 0 (by kernel_rfl)
        have h0 := HJ.out.not (i := 25) (by decide) (by decide) hl
        clear h0 h4 h5 hg
        unfold OpY
        go_simp
        first | exact ⟨rfl, HJ.out.put (i := 25) (by decide) (by decide) (by decide) hl (fun e => absurd e (by decide)) (fun e => absurd e (by decide))⟩ | exact ⟨Or.inr rfl, HJ.out.put (i := 25) (by decide) (by decide) (by decide) hl (fun e => absurd e (by decide)) (fun e => absurd e (by decide))⟩
      · refine ⟨(fun g b h => by cases h), fun l w' hl hdp hJ hg ρ h1 h2 h3 h4 h5 => ?_⟩
        have HJ := hid hJ
        clear hJ
        have f41 : ρ (.tmp 41) = .pointer (some ⟨L, 0, none⟩) := h4 25 41 (by kernel_rfl) (by kernel_rfl)
        have h0 := HJ.out.not (i := 26) (by decide) (by decide) hl
        clear h0 h4 h5 hg
        unfold OpY
        go_simp
        first | exact ⟨rfl, HJ.out.put (i := 26) (by decide) (by decide) (by decide) hl (fun e => absurd e (by decide)) (fun e => absurd e (by decide))⟩ | exact ⟨Or.inr rfl, HJ.out.put (i := 26) (by decide) (by decide) (by decide) hl (fun e => absurd e (by decide)) (fun e => absurd e (by decide))⟩
      · refine ⟨(fun g b h => by cases h), fun l w' hl hdp hJ hg ρ h1 h2 h3 h4 h5 => ?_⟩
        have HJ := hid hJ
        clear hJ
        have f42 : ρ (.tmp 42) = .pointer (some ⟨L, 0, none⟩) := h4 26 42 (by kernel_rfl) (by kernel_rfl)
        have h0 := HJ.out.not (i := 27) (by decide) (by decide) hl
        clear h0 h4 h5 hg
        unfold OpY
        go_simp
        first | exact ⟨rfl, HJ.out.put (i := 27) (by decide) (by decide) (by decide) hl (fun e => absurd e (by decide)) (fun e => absurd e (by decide))⟩ | exact ⟨Or.inr rfl, HJ.out.put (i := 27) (by decide) (by decide) (by decide) hl (fun e => absurd e (by decide)) (fun e => absurd e (by decide))⟩
      · refine ⟨(fun g b h => by cases h), fun l w' hl hdp hJ hg ρ h1 h2 h3 h4 h5 => ?_⟩
        have HJ := hid hJ
        clear hJ
        have f43 : ρ (.tmp 43) = .pointer (some ⟨L, 0, none⟩) := h4 27 43 (by kernel_rfl) (by kernel_rfl)
        have h0 := HJ.out.not (i := 28) (by decide) (by decide) hl
        have c : w'.cell? ⟨L, 0, none⟩ = some (.pointer (some ⟨C, 0, none⟩)) := ((HJ.out.turn h0).blk HL.out HBL1.out).cell 0 rfl
        clear h0 h4 h5 hg
        unfold OpY
        go_simp
        first | exact ⟨rfl, HJ.out.put (i := 28) (by decide) (by decide) (by decide) hl (fun e => absurd e (by decide)) (fun e => absurd e (by decide))⟩ | exact ⟨Or.inr rfl, HJ.out.put (i := 28) (by decide) (by decide) (by decide) hl (fun e => absurd e (by decide)) (fun e => absurd e (by decide))⟩
      · refine ⟨(fun g b h => by cases h), fun l w' hl hdp hJ hg ρ h1 h2 h3 h4 h5 => ?_⟩
        have HJ := hid hJ
        clear hJ
        have f44 : ρ (.tmp 44) = .pointer (some ⟨C, 0, none⟩) := h4 28 44 (by kernel_rfl) (by kernel_rfl)
        have h0 := HJ.out.not (i := 29) (by decide) (by decide) hl
        clear h0 h4 h5 hg
        unfold OpY
        go_simp
        first | exact ⟨rfl, HJ.out.put (i := 29) (by decide) (by decide) (by decide) hl (fun e => absurd e (by decide)) (fun e => absurd e (by decide))⟩ | exact ⟨Or.inr rfl, HJ.out.put (i := 29) (by decide) (by decide) (by decide) hl (fun e => absurd e (by decide)) (fun e => absurd e (by decide))⟩
      · refine ⟨(fun g b h => by cases h), fun l w' hl hdp hJ hg ρ h1 h2 h3 h4 h5 => ?_⟩
        have HJ := hid hJ
        clear hJ
        have f45 : ρ (.tmp 45) = .pointer (some ⟨C, 0, none⟩) := h4 29 45 (by kernel_rfl) (by kernel_rfl)
        have h0 := HJ.out.not (i := 30) (by decide) (by decide) hl
        clear h0 h4 h5 hg
        unfold OpY
        go_simp
        first | exact ⟨rfl, HJ.out.put (i := 30) (by decide) (by decide) (by decide) hl (fun e => absurd e (by decide)) (fun e => absurd e (by decide))⟩ | exact ⟨Or.inr rfl, HJ.out.put (i := 30) (by decide) (by decide) (by decide) hl (fun e => absurd e (by decide)) (fun e => absurd e (by decide))⟩
      · refine ⟨(fun g b h => by cases h), fun l w' hl hdp hJ hg ρ h1 h2 h3 h4 h5 => ?_⟩
        have HJ := hid hJ
        clear hJ
        have f46 : ρ (.tmp 46) = .pointer (some ⟨C, 4, none⟩) := h4 30 46 (by kernel_rfl) (by kernel_rfl)
        have h0 := HJ.out.not (i := 31) (by decide) (by decide) hl
        have c : w'.cell? ⟨C, 4, none⟩ = some (.int .i64 (c.clock)) := ((HJ.out.turn h0).blk HC.out HBC1.out).cell 4 rfl
        clear h0 h4 h5 hg
        unfold OpY
        go_simp
        first | exact ⟨rfl, HJ.out.put (i := 31) (by decide) (by decide) (by decide) hl (fun e => absurd e (by decide)) (fun e => absurd e (by decide))⟩ | exact ⟨Or.inr rfl, HJ.out.put (i := 31) (by decide) (by decide) (by decide) hl (fun e => absurd e (by decide)) (fun e => absurd e (by decide))⟩
      · refine ⟨(fun g b h => by cases h), fun l w' hl hdp hJ hg ρ h1 h2 h3 h4 h5 => ?_⟩
        have HJ := hid hJ
        clear hJ
        have f47 : ρ (.tmp 47) = .int .i64 (c.clock) := h4 31 47 (by kernel_rfl) (by kernel_rfl)
        have h0 := HJ.out.not (i := 32) (by decide) (by decide) hl
        clear h0 h4 h5 hg
        unfold OpY
        go_simp
        first | exact ⟨rfl, HJ.out.put (i := 32) (by decide) (by decide) (by decide) hl (fun e => absurd e (by decide)) (fun e => absurd e (by decide))⟩ | exact ⟨Or.inr rfl, HJ.out.put (i := 32) (by decide) (by decide) (by decide) hl (fun e => absurd e (by decide)) (fun e => absurd e (by decide))⟩
      · refine ⟨(fun g b h => by cases h), fun l w' hl hdp hJ hg ρ h1 h2 h3 h4 h5 => ?_⟩
        have HJ := hid hJ
        clear hJ
        have f27 : ρ (.tmp 27) = .func (.func n) #[] vn := h4 11 27 (by kernel_rfl) (by kernel_rfl)
        have f40 : ρ (.tmp 40) = .int .i64 (v - c.clock) := h4 24 40 (by kernel_rfl) (by kernel_rfl)
        have f48 : ρ (.tmp 48) = .int .i64 (1099511627776 - c.clock) := h4 32 48 (by kernel_rfl) (by kernel_rfl)
        clear h4 h5 hg
        unfold OpY
        go_simp
        unfold OpR
        have h0 := HJ.out.pre hl
        subst h0
        refine (HN1.out _ HA1.out).mono ?_
        rintro e' w'' ⟨rfl, ha', ht'⟩
        first | exact ⟨_, rfl, rfl, HJ.out.call (by decide) (by decide) hl (by decide) ha' ht'⟩ | exact ⟨_, rfl, Or.inr rfl, HJ.out.call (by decide) (by decide) hl (by decide) ha' ht'⟩
      · refine ⟨(fun g b h => by cases h), fun l w' hl hdp hJ hg ρ h1 h2 h3 h4 h5 => ?_⟩
        have HJ := hid hJ
        clear hJ
        have f23 : ρ (.tmp 23) = .int .i64 (c.clock) := h4 7 23 (by kernel_rfl) (by kernel_rfl)
        have f49 : ρ (.tmp 49) = .int .i64 (z.1) := h4 33 49 (by kernel_rfl) (by kernel_rfl)
        have h0 := HJ.out.not (i := 34) (by decide) (by decide) hl
        clear h0 h4 h5 hg
        unfold OpY
        go_simp
        first | exact ⟨rfl, HJ.out.put (i := 34) (by decide) (by decide) (by decide) hl (fun e => absurd e (by decide)) (fun e => absurd e (by decide))⟩ | exact ⟨Or.inr rfl, HJ.out.put (i := 34) (by decide) (by decide) (by decide) hl (fun e => absurd e (by decide)) (fun e => absurd e (by decide))⟩
      · refine ⟨(fun g b h => by cases h), fun l w' hl hdp hJ hg ρ h1 h2 h3 h4 h5 => ?_⟩
        have HJ := hid hJ
        clear hJ
        have f16 : ρ (.tmp 16) = .pointer (some ⟨L, 0, none⟩) := h4 0 16 (by kernel_rfl) (by kernel_rfl)
        have h0 := HJ.out.not (i := 35) (by decide) (by decide) hl
        clear h0 h4 h5 hg
        unfold OpY
        go_simp
        first | exact ⟨rfl, HJ.out.put (i := 35) (by decide) (by decide) (by decide) hl (fun e => absurd e (by decide)) (fun e => absurd e (by decide))⟩ | exact ⟨Or.inr rfl, HJ.out.put (i := 35) (by decide) (by decide) (by decide) hl (fun e => absurd e (by decide)) (fun e => absurd e (by decide))⟩
      · refine ⟨(fun g b h => by cases h), fun l w' hl hdp hJ hg ρ h1 h2 h3 h4 h5 => ?_⟩
        have HJ := hid hJ
        clear hJ
        have f51 : ρ (.tmp 51) = .pointer (some ⟨L, 0, none⟩) := h4 35 51 (by kernel_rfl) (by kernel_rfl)
        have h0 := HJ.out.not (i := 36) (by decide) (by decide) hl
        clear h0 h4 h5 hg
        unfold OpY
        go_simp
        first | exact ⟨rfl, HJ.out.put (i := 36) (by decide) (by decide) (by decide) hl (fun e => absurd e (by decide)) (fun _ => hdp 35 (by kernel_rfl))⟩ | exact ⟨Or.inr rfl, HJ.out.put (i := 36) (by decide) (by decide) (by decide) hl (fun e => absurd e (by decide)) (fun _ => hdp 35 (by kernel_rfl))⟩
      · refine ⟨(fun g b h => by cases h), fun l w' hl hdp hJ hg ρ h1 h2 h3 h4 h5 => ?_⟩
        have HJ := hid hJ
        clear hJ
        have f52 : ρ (.tmp 52) = .pointer (some ⟨L, 1, none⟩) := h4 36 52 (by kernel_rfl) (by kernel_rfl)
        have h0 := HJ.out.not (i := 37) (by decide) (by decide) hl
        clear h0 h4 h5 hg
        unfold OpY
        go_simp
        first | exact ⟨rfl, HJ.out.put (i := 37) (by decide) (by decide) (by decide) hl (fun _ => hdp 36 (by kernel_rfl)) (fun e => absurd e (by decide))⟩ | exact ⟨Or.inr rfl, HJ.out.put (i := 37) (by decide) (by decide) (by decide) hl (fun _ => hdp 36 (by kernel_rfl)) (fun e => absurd e (by decide))⟩
      · refine ⟨(fun g b h => by cases h), fun l w' hl hdp hJ hg ρ h1 h2 h3 h4 h5 => ?_⟩
        have HJ := hid hJ
        clear hJ
        have f53 : ρ (.tmp 53) = .pointer (some ⟨L, 5, none⟩) := h4 37 53 (by kernel_rfl) (by kernel_rfl)
        have f50 : ρ (.tmp 50) = .int .i64 (c.clock + z.1) := h4 34 50 (by kernel_rfl) (by kernel_rfl)
        have h15 := hdp 37 (by kernel_rfl)
        have h14 := HJ.out.d1 h15
        have h13 := HJ.out.d2 h14
        have hall : ∀ q, q < 39 → q ≠ 38 → l q = true := all_of (si := 38) h13 h14 (by kernel_rfl) hdp
        have h0 := hl
        have hb := (HJ.out.turn h0).blk HL.out HBL1.out
        have c := hb.cell 5 rfl
        have z := hb.free 5
        have HALL := hid hall
        clear hall hb h0 h13 h14 h15 h4 h5 hg
        unfold OpY
        go_simp
        exact HJ.out.store HK.out.keep HL.out HBL1.out (by decide) (by decide) (by decide) hl HALL.out rfl
    case hdone =>
      intro W2 hJ
      have HF := hid (hJ.fin rfl)
      clear hJ
      go_wp2_with fail
      go_end0
      exact ⟨rfl, HF.out.1, HT1.out.trans HF.out.2.1, HF.out.2.2⟩

set_option maxRecDepth 100000 in
set_option maxHeartbeats 4000000 in
theorem look_any (hK : ClOk K ks At Px Ok n i b vn vi vb) (T V S : Int) (c : Cdr) (kind tx at_ v x why : Int) (th : Nat) (s : σ) (L C : Nat) (W : World) (hL : Blk W L (lineA C ⟨kind, (th : Int), tx, at_, v, x, why⟩ (clo n vn) (clo i vi) (clo b vb)) 83) (hC : Blk W C (cdrA T V S c) 74) (hA : At s W) (hLk : L ∉ ks) (hCk : C ∉ ks) (hLC : C ≠ L) (ho : Ok 2 s) (ha : Px at_) (hS : 1 ≤ S ∧ S ≤ 32) (hth : th < 6) (hv : Px (c.begun th - v)) (h1 : 0 ≤ v ∧ v ≤ 1099511627776) (h2 : 0 ≤ c.begun th ∧ c.begun th ≤ 1099511627776) :
    Calls Tryd.prog 57 #[.pointer (some ⟨L, 0, none⟩)] W (LineP ks At n i b vn vi vb L C W (let y := K.num s at_ (S - 1); let z := K.num y.2 (c.begun th - v) (c.begun th); (⟨kind, (th : Int), tx, y.1, c.begun th - z.1, x, why⟩, z.2))) := by
  have HBL := hid hL
  have HBC := hid hC
  have HL := hid hLk
  have HC := hid hCk
  have HLC := hid hLC
  have HA := hid (hK.keep s W W.drew hA (fun _ _ => rfl))
  have HK := hid hK
  have hen := hK.en
  have hei := hK.ei
  have heb := hK.eb
  dsimp only
  have HAT := hid (at_any hK T V S c kind tx at_ v x why th S s L C W hL hC hA hLk hCk hLC (hK.okm _ _ ho) ha ⟨by omega, by omega⟩)
  obtain ⟨y, hy⟩ : ∃ y, y = K.num s (at_) (S - 1) := ⟨_, rfl⟩
  have ho1 := hK.okn 1 s at_ (S - 1) ho
  rw [← hy] at HAT ho1 ⊢
  have HN1 := hid (fun W' (h : At y.2 W') => hK.num y.2 (c.begun th - v) (c.begun th) W' h ho1 hv ⟨by omega, by omega⟩)
  have hz1 := hK.nb y.2 (c.begun th - v) (c.begun th) hv ⟨by omega, by omega⟩
  obtain ⟨z, hz⟩ : ∃ z, z = K.num y.2 (c.begun th - v) (c.begun th) := ⟨_, rfl⟩
  rw [← hz] at HN1 hz1 ⊢
  have j1 : IntKind.i64.wrap (c.begun th - v) = c.begun th - v := IntWalk.i64_in _ (by omega)
  have j3 : IntKind.i64.wrap (c.begun th - z.1) = c.begun th - z.1 := IntWalk.i64_in _ (by omega)
  have HTH := hid hth
  have jt0 : (0 : Int) ≤ (th : Int) := by omega
  have jt6 : (th : Int) < 6 := by omega
  have d0 := hL.cell 0 (v := .pointer (some ⟨C, 0, none⟩)) rfl
  have c2 := hC.cell 2 (v := .int .i64 S) rfl
  clear ha hv h1 h2 hy hz hz1 hS hth
  clear hL hC hLk hCk hK hA hLC ho
  unfold LineP
  unfold clo
  go_enter Tryd.func57, Tryd.ntmps57
  go_wp2_with fail
  refine HAT.out.mono ?_
  rintro e' W1 ⟨rfl, hA1, hT1, hB1⟩
  have HA1 := hid (HK.out.keep _ _ W1.drew hA1 (fun _ _ => rfl))
  have HT1 := hid hT1
  have hBC1 := hT1.blk (by simp; exact ⟨HLC.out, HC.out⟩) HBC.out
  have d0 := hB1.cell 0 (v := .pointer (some ⟨C, 0, none⟩)) rfl
  have d2 := hB1.cell 2 (v := .int .i64 (th : Int)) rfl
  have c5 := hBC1.cell (5 + th) (cdr_begun T V S c HTH.out)
  have HBL1 := hid hB1
  have HBC1 := hid hBC1
  have HAA := hid hA1
  clear hA1 hT1 hBC1 hB1
  go_wp2_with fail
  go_quiet (fail)
  have HBL2 := hid (HBL1.out.below (ext_drewN (ext_refl W1) nq))
  have HBC2 := hid (HBC1.out.below (ext_drewN (ext_refl W1) nq))
  have HA2 := hid (HK.out.keep _ W1 (W1.drewN nq).drew HAA.out (fun _ _ => drewN_hp' W1 nq _))
  have HT2 := hid (HT1.out.drewN nq)
  clear d0 d2 c5 HBL1 HBC1 HAA HT1 HAT HA HBL HBC
  generalize W1.drewN nq = W2 at *
  go_wp2_with fail
  apply wp_region_knownJ (fun qq => ([.pointer (some ⟨L, 0, none⟩), .int .i64 (c.begun th), .pointer (some ⟨L, 0, none⟩), .pointer (some ⟨L, 0, none⟩), .pointer (some ⟨L, 8, none⟩), .func (.func n) #[] vn, .int .i64 (c.begun th), .pointer (some ⟨L, 0, none⟩), .pointer (some ⟨L, 0, none⟩), .pointer (some ⟨L, 1, none⟩), .pointer (some ⟨L, 5, none⟩), .int .i64 (v), .int .i64 (c.begun th - v), .int .i64 (c.begun th), .int .i64 (z.1), .int .i64 (c.begun th - z.1), .pointer (some ⟨L, 0, none⟩), .pointer (some ⟨L, 1, none⟩), .pointer (some ⟨L, 5, none⟩), undef] : List Value).getD qq undef) (LJ W2 ks At z.2 L (lineA C ⟨kind, (th : Int), tx, y.1, c.begun th - z.1, x, why⟩ (clo n vn) (clo i vi) (clo b vb)) 83 20 14 19)
  focus (simp [putAll, dstOf, Act.put, List.getD]; rfl)
  case hm => kernel_rfl
  case hd => kernel_rfl
  case hb => kernel_rfl
  case hng => kernel_rfl
  case hsz => kernel_rfl
  case hext => exact fun l l' w h H => H.ext (by decide) (by decide) (fun i hi => h i hi)
  case h0 => exact LJ.start
  case hstep =>
    refine ⟨?_, ?_, ?_, ?_, ?_, ?_, ?_, ?_, ?_, ?_, ?_, ?_, ?_, ?_, ?_, ?_, ?_, ?_, ?_, ?_,  trivial⟩
    · refine ⟨(fun g b h => by cases h), fun l w' hl hdp hJ hg ρ h1 h2 h3 h4 h5 => ?_⟩
      have HJ := hid hJ
      clear hJ
      have f0 : ρ (.tmp 0) = .pointer (some ⟨L, 0, none⟩) := h5 0 (by kernel_rfl)
      have h0 := HJ.out.not (i := 0) (by decide) (by decide) hl
      clear h0 h4 h5 hg
      unfold OpY
      go_simp
      first | exact ⟨rfl, HJ.out.put (i := 0) (by decide) (by decide) (by decide) hl (fun e => absurd e (by decide)) (fun e => absurd e (by decide))⟩ | exact ⟨Or.inr rfl, HJ.out.put (i := 0) (by decide) (by decide) (by decide) hl (fun e => absurd e (by decide)) (fun e => absurd e (by decide))⟩
    · refine ⟨(fun g b h => by cases h), fun l w' hl hdp hJ hg ρ h1 h2 h3 h4 h5 => ?_⟩
      have HJ := hid hJ
      clear hJ
      have f2 : ρ (.tmp 2) = .int .i64 (c.begun th) := h5 2 (by kernel_rfl)
      have h0 := HJ.out.not (i := 1) (by decide) (by decide) hl
      clear h0 h4 h5 hg
      unfold OpY
      go_simp
      first | exact ⟨rfl, HJ.out.put (i := 1) (by decide) (by decide) (by decide) hl (fun e => absurd e (by decide)) (fun e => absurd e (by decide))⟩ | exact ⟨Or.inr rfl, HJ.out.put (i := 1) (by decide) (by decide) (by decide) hl (fun e => absurd e (by decide)) (fun e => absurd e (by decide))⟩
    · refine ⟨(fun g b h => by cases h), fun l w' hl hdp hJ hg ρ h1 h2 h3 h4 h5 => ?_⟩
      have HJ := hid hJ
      clear hJ
      have f0 : ρ (.tmp 0) = .pointer (some ⟨L, 0, none⟩) := h5 0 (by kernel_rfl)
      have h0 := HJ.out.not (i := 2) (by decide) (by decide) hl
      clear h0 h4 h5 hg
      unfold OpY
      go_simp
      first | exact ⟨rfl, HJ.out.put (i := 2) (by decide) (by decide) (by decide) hl (fun e => absurd e (by decide)) (fun e => absurd e (by decide))⟩ | exact ⟨Or.inr rfl, HJ.out.put (i := 2) (by decide) (by decide) (by decide) hl (fun e => absurd e (by decide)) (fun e => absurd e (by decide))⟩
    · refine ⟨(fun g b h => by cases h), fun l w' hl hdp hJ hg ρ h1 h2 h3 h4 h5 => ?_⟩
      have HJ := hid hJ
      clear hJ
      have f27 : ρ (.tmp 27) = .pointer (some ⟨L, 0, none⟩) := h4 2 27 (by kernel_rfl) (by kernel_rfl)
      have h0 := HJ.out.not (i := 3) (by decide) (by decide) hl
      clear h0 h4 h5 hg
      unfold OpY
      go_simp
      first | exact ⟨rfl, HJ.out.put (i := 3) (by decide) (by decide) (by decide) hl (fun e => absurd e (by decide)) (fun e => absurd e (by decide))⟩ | exact ⟨Or.inr rfl, HJ.out.put (i := 3) (by decide) (by decide) (by decide) hl (fun e => absurd e (by decide)) (fun e => absurd e (by decide))⟩
    · refine ⟨(fun g b h => by cases h), fun l w' hl hdp hJ hg ρ h1 h2 h3 h4 h5 => ?_⟩
      have HJ := hid hJ
      clear hJ
      have f28 : ρ (.tmp 28) = .pointer (some ⟨L, 0, none⟩) := h4 3 28 (by kernel_rfl) (by kernel_rfl)
      have h0 := HJ.out.not (i := 4) (by decide) (by decide) hl
      clear h0 h4 h5 hg
      unfold OpY
      go_simp
      first | exact ⟨rfl, HJ.out.put (i := 4) (by decide) (by decide) (by decide) hl (fun e => absurd e (by decide)) (fun e => absurd e (by decide))⟩ | exact ⟨Or.inr rfl, HJ.out.put (i := 4) (by decide) (by decide) (by decide) hl (fun e => absurd e (by decide)) (fun e => absurd e (by decide))⟩
    · refine ⟨(fun g b h => by cases h), fun l w' hl hdp hJ hg ρ h1 h2 h3 h4 h5 => ?_⟩
      have HJ := hid hJ
      clear hJ
      have f29 : ρ (.tmp 29) = .pointer (some ⟨L, 8, none⟩) := h4 4 29 (by kernel_rfl) (by kernel_rfl)
      have h0 := HJ.out.not (i := 5) (by decide) (by decide) hl
      have c : w'.cell? ⟨L, 8, none⟩ = some (.func (.func n) #[] vn) := ((HJ.out.turn h0).blk HL.out HBL2.out).cell 8 rfl
      clear h0 h4 h5 hg
      unfold OpY
      go_simp
      first | exact ⟨rfl, HJ.out.put (i := 5) (by decide) (by decide) (by decide) hl (fun e => absurd e (by decide)) (fun e => absurd e (by decide))⟩ | exact ⟨Or.inr rfl, HJ.out.put (i := 5) (by decide) (by decide) (by decide) hl (fun e => absurd e (by decide)) (fun e => absurd e (by decide))⟩
    · refine ⟨(fun g b h => by cases h), fun l w' hl hdp hJ hg ρ h1 h2 h3 h4 h5 => ?_⟩
      have HJ := hid hJ
      clear hJ
      have f2 : ρ (.tmp 2) = .int .i64 (c.begun th) := h5 2 (by kernel_rfl)
      have h0 := HJ.out.not (i := 6) (by decide) (by decide) hl
      clear h0 h4 h5 hg
      unfold OpY
      go_simp
      first | exact ⟨rfl, HJ.out.put (i := 6) (by decide) (by decide) (by decide) hl (fun e => absurd e (by decide)) (fun e => absurd e (by decide))⟩ | exact ⟨Or.inr rfl, HJ.out.put (i := 6) (by decide) (by decide) (by decide) hl (fun e => absurd e (by decide)) (fun e => absurd e (by decide))⟩
    · refine ⟨(fun g b h => by cases h), fun l w' hl hdp hJ hg ρ h1 h2 h3 h4 h5 => ?_⟩
      have HJ := hid hJ
      clear hJ
      have f0 : ρ (.tmp 0) = .pointer (some ⟨L, 0, none⟩) := h5 0 (by kernel_rfl)
      have h0 := HJ.out.not (i := 7) (by decide) (by decide) hl
      clear h0 h4 h5 hg
      unfold OpY
      go_simp
      first | exact ⟨rfl, HJ.out.put (i := 7) (by decide) (by decide) (by decide) hl (fun e => absurd e (by decide)) (fun e => absurd e (by decide))⟩ | exact ⟨Or.inr rfl, HJ.out.put (i := 7) (by decide) (by decide) (by decide) hl (fun e => absurd e (by decide)) (fun e => absurd e (by decide))⟩
    · refine ⟨(fun g b h => by cases h), fun l w' hl hdp hJ hg ρ h1 h2 h3 h4 h5 => ?_⟩
      have HJ := hid hJ
      clear hJ
      have f32 : ρ (.tmp 32) = .pointer (some ⟨L, 0, none⟩) := h4 7 32 (by kernel_rfl) (by kernel_rfl)
      have h0 := HJ.out.not (i := 8) (by decide) (by decide) hl
      clear h0 h4 h5 hg
      unfold OpY
      go_simp
      first | exact ⟨rfl, HJ.out.put (i := 8) (by decide) (by decide) (by decide) hl (fun e => absurd e (by decide)) (fun e => absurd e (by decide))⟩ | exact ⟨Or.inr rfl, HJ.out.put (i := 8) (by decide) (by decide) (by decide) hl (fun e => absurd e (by decide)) (fun e => absurd e (by decide))⟩
    · refine ⟨(fun g b h => by cases h), fun l w' hl hdp hJ hg ρ h1 h2 h3 h4 h5 => ?_⟩
      have HJ := hid hJ
      clear hJ
      have f33 : ρ (.tmp 33) = .pointer (some ⟨L, 0, none⟩) := h4 8 33 (by kernel_rfl) (by kernel_rfl)
      have h0 := HJ.out.not (i := 9) (by decide) (by decide) hl
      clear h0 h4 h5 hg
      unfold OpY
      go_simp
      first | exact ⟨rfl, HJ.out.put (i := 9) (by decide) (by decide) (by decide) hl (fun e => absurd e (by decide)) (fun e => absurd e (by decide))⟩ | exact ⟨Or.inr rfl, HJ.out.put (i := 9) (by decide) (by decide) (by decide) hl (fun e => absurd e (by decide)) (fun e => absurd e (by decide))⟩
    · refine ⟨(fun g b h => by cases h), fun l w' hl hdp hJ hg ρ h1 h2 h3 h4 h5 => ?_⟩
      have HJ := hid hJ
      clear hJ
      have f34 : ρ (.tmp 34) = .pointer (some ⟨L, 1, none⟩) := h4 9 34 (by kernel_rfl) (by kernel_rfl)
      have h0 := HJ.out.not (i := 10) (by decide) (by decide) hl
      clear h0 h4 h5 hg
      unfold OpY
      go_simp
      first | exact ⟨rfl, HJ.out.put (i := 10) (by decide) (by decide) (by decide) hl (fun e => absurd e (by decide)) (fun e => absurd e (by decide))⟩ | exact ⟨Or.inr rfl, HJ.out.put (i := 10) (by decide) (by decide) (by decide) hl (fun e => absurd e (by decide)) (fun e => absurd e (by decide))⟩
    · refine ⟨(fun g b h => by cases h), fun l w' hl hdp hJ hg ρ h1 h2 h3 h4 h5 => ?_⟩
      have HJ := hid hJ
      clear hJ
      have f35 : ρ (.tmp 35) = .pointer (some ⟨L, 5, none⟩) := h4 10 35 (by kernel_rfl) (by kernel_rfl)
      have h0 := HJ.out.not (i := 11) (by decide) (by decide) hl
      have c : w'.cell? ⟨L, 5, none⟩ = some (.int .i64 (v)) := ((HJ.out.turn h0).blk HL.out HBL2.out).cell 5 rfl
      clear h0 h4 h5 hg
      unfold OpY
      go_simp
      first | exact ⟨rfl, HJ.out.put (i := 11) (by decide) (by decide) (by decide) hl (fun e => absurd e (by decide)) (fun e => absurd e (by decide))⟩ | exact ⟨Or.inr rfl, HJ.out.put (i := 11) (by decide) (by decide) (by decide) hl (fun e => absurd e (by decide)) (fun e => absurd e (by decide))⟩
    · refine ⟨(fun g b h => by cases h), fun l w' hl hdp hJ hg ρ h1 h2 h3 h4 h5 => ?_⟩
      have HJ := hid hJ
      clear hJ
      have f31 : ρ (.tmp 31) = .int .i64 (c.begun th) := h4 6 31 (by kernel_rfl) (by kernel_rfl)
      have f36 : ρ (.tmp 36) = .int .i64 (v) := h4 11 36 (by kernel_rfl) (by kernel_rfl)
      have h0 := HJ.out.not (i := 12) (by decide) (by decide) hl
      clear h0 h4 h5 hg
      unfold OpY
      go_simp
      first | exact ⟨rfl, HJ.out.put (i := 12) (by decide) (by decide) (by decide) hl (fun e => absurd e (by decide)) (fun e => absurd e (by decide))⟩ | exact ⟨Or.inr rfl, HJ.out.put (i := 12) (by decide) (by decide) (by decide) hl (fun e => absurd e (by decide)) (fun e => absurd e (by decide))⟩
    · refine ⟨(fun g b h => by cases h), fun l w' hl hdp hJ hg ρ h1 h2 h3 h4 h5 => ?_⟩
      have HJ := hid hJ
      clear hJ
      have f2 : ρ (.tmp 2) = .int .i64 (c.begun th) := h5 2 (by kernel_rfl)
      have h0 := HJ.out.not (i := 13) (by decide) (by decide) hl
      clear h0 h4 h5 hg
      unfold OpY
      go_simp
      first | exact ⟨rfl, HJ.out.put (i := 13) (by decide) (by decide) (by decide) hl (fun e => absurd e (by decide)) (fun e => absurd e (by decide))⟩ | exact ⟨Or.inr rfl, HJ.out.put (i := 13) (by decide) (by decide) (by decide) hl (fun e => absurd e (by decide)) (fun e => absurd e (by decide))⟩
    · refine ⟨(fun g b h => by cases h), fun l w' hl hdp hJ hg ρ h1 h2 h3 h4 h5 => ?_⟩
      have HJ := hid hJ
      clear hJ
      have f30 : ρ (.tmp 30) = .func (.func n) #[] vn := h4 5 30 (by kernel_rfl) (by kernel_rfl)
      have f37 : ρ (.tmp 37) = .int .i64 (c.begun th - v) := h4 12 37 (by kernel_rfl) (by kernel_rfl)
      have f38 : ρ (.tmp 38) = .int .i64 (c.begun th) := h4 13 38 (by kernel_rfl) (by kernel_rfl)
      clear h4 h5 hg
      unfold OpY
      go_simp
      unfold OpR
      have h0 := HJ.out.pre hl
      subst h0
      refine (HN1.out _ HA2.out).mono ?_
      rintro e' w'' ⟨rfl, ha', ht'⟩
      first | exact ⟨_, rfl, rfl, HJ.out.call (by decide) (by decide) hl (by decide) ha' ht'⟩ | exact ⟨_, rfl, Or.inr rfl, HJ.out.call (by decide) (by decide) hl (by decide) ha' ht'⟩
    · refine ⟨(fun g b h => by cases h), fun l w' hl hdp hJ hg ρ h1 h2 h3 h4 h5 => ?_⟩
      have HJ := hid hJ
      clear hJ
      have f26 : ρ (.tmp 26) = .int .i64 (c.begun th) := h4 1 26 (by kernel_rfl) (by kernel_rfl)
      have f39 : ρ (.tmp 39) = .int .i64 (z.1) := h4 14 39 (by kernel_rfl) (by kernel_rfl)
      have h0 := HJ.out.not (i := 15) (by decide) (by decide) hl
      clear h0 h4 h5 hg
      unfold OpY
      go_simp
      first | exact ⟨rfl, HJ.out.put (i := 15) (by decide) (by decide) (by decide) hl (fun e => absurd e (by decide)) (fun e => absurd e (by decide))⟩ | exact ⟨Or.inr rfl, HJ.out.put (i := 15) (by decide) (by decide) (by decide) hl (fun e => absurd e (by decide)) (fun e => absurd e (by decide))⟩
    · refine ⟨(fun g b h => by cases h), fun l w' hl hdp hJ hg ρ h1 h2 h3 h4 h5 => ?_⟩
      have HJ := hid hJ
      clear hJ
      have f25 : ρ (.tmp 25) = .pointer (some ⟨L, 0, none⟩) := h4 0 25 (by kernel_rfl) (by kernel_rfl)
      have h0 := HJ.out.not (i := 16) (by decide) (by decide) hl
      clear h0 h4 h5 hg
      unfold OpY
      go_simp
      first | exact ⟨rfl, HJ.out.put (i := 16) (by decide) (by decide) (by decide) hl (fun e => absurd e (by decide)) (fun e => absurd e (by decide))⟩ | exact ⟨Or.inr rfl, HJ.out.put (i := 16) (by decide) (by decide) (by decide) hl (fun e => absurd e (by decide)) (fun e => absurd e (by decide))⟩
    · refine ⟨(fun g b h => by cases h), fun l w' hl hdp hJ hg ρ h1 h2 h3 h4 h5 => ?_⟩
      have HJ := hid hJ
      clear hJ
      have f41 : ρ (.tmp 41) = .pointer (some ⟨L, 0, none⟩) := h4 16 41 (by kernel_rfl) (by kernel_rfl)
      have h0 := HJ.out.not (i := 17) (by decide) (by decide) hl
      clear h0 h4 h5 hg
      unfold OpY
      go_simp
      first | exact ⟨rfl, HJ.out.put (i := 17) (by decide) (by decide) (by decide) hl (fun e => absurd e (by decide)) (fun _ => hdp 16 (by kernel_rfl))⟩ | exact ⟨Or.inr rfl, HJ.out.put (i := 17) (by decide) (by decide) (by decide) hl (fun e => absurd e (by decide)) (fun _ => hdp 16 (by kernel_rfl))⟩
    · refine ⟨(fun g b h => by cases h), fun l w' hl hdp hJ hg ρ h1 h2 h3 h4 h5 => ?_⟩
      have HJ := hid hJ
      clear hJ
      have f42 : ρ (.tmp 42) = .pointer (some ⟨L, 1, none⟩) := h4 17 42 (by kernel_rfl) (by kernel_rfl)
      have h0 := HJ.out.not (i := 18) (by decide) (by decide) hl
      clear h0 h4 h5 hg
      unfold OpY
      go_simp
      first | exact ⟨rfl, HJ.out.put (i := 18) (by decide) (by decide) (by decide) hl (fun _ => hdp 17 (by kernel_rfl)) (fun e => absurd e (by decide))⟩ | exact ⟨Or.inr rfl, HJ.out.put (i := 18) (by decide) (by decide) (by decide) hl (fun _ => hdp 17 (by kernel_rfl)) (fun e => absurd e (by decide))⟩
    · refine ⟨(fun g b h => by cases h), fun l w' hl hdp hJ hg ρ h1 h2 h3 h4 h5 => ?_⟩
      have HJ := hid hJ
      clear hJ
      have f43 : ρ (.tmp 43) = .pointer (some ⟨L, 5, none⟩) := h4 18 43 (by kernel_rfl) (by kernel_rfl)
      have f40 : ρ (.tmp 40) = .int .i64 (c.begun th - z.1) := h4 15 40 (by kernel_rfl) (by kernel_rfl)
      have h15 := hdp 18 (by kernel_rfl)
      have h14 := HJ.out.d1 h15
      have h13 := HJ.out.d2 h14
      have hall : ∀ q, q < 20 → q ≠ 19 → l q = true := all_of (si := 19) h13 h14 (by kernel_rfl) hdp
      have h0 := hl
      have hb := (HJ.out.turn h0).blk HL.out HBL2.out
      have c := hb.cell 5 rfl
      have z := hb.free 5
      have HALL := hid hall
      clear hall hb h0 h13 h14 h15 h4 h5 hg
      unfold OpY
      go_simp
      exact HJ.out.store HK.out.keep HL.out HBL2.out (by decide) (by decide) (by decide) hl HALL.out rfl
  case hdone =>
    intro W3 hJ
    have HF := hid (hJ.fin rfl)
    clear hJ
    go_wp2_with fail
    go_end0
    exact ⟨rfl, HF.out.1, HT2.out.trans HF.out.2.1, HF.out.2.2⟩

set_option maxRecDepth 100000 in
set_option maxHeartbeats 4000000 in
theorem value_any (hK : ClOk K ks At Px Ok n i b vn vi vb) (T V S : Int) (c : Cdr) (kind tx at_ v x why : Int) (th : Nat) (q : Nat) (s : σ) (L C : Nat) (W : World) (hL : Blk W L (lineA C ⟨kind, (th : Int), tx, at_, v, x, why⟩ (clo n vn) (clo i vi) (clo b vb)) 83) (hC : Blk W C (cdrA T V S c) 74) (hA : At s W) (hLk : L ∉ ks) (hCk : C ∉ ks) (hLC : C ≠ L) (ho : Ok 2 s) (ha : Px at_) (hV : 1 ≤ V ∧ V ≤ 32) (hq : (K.num s at_ (V - 1)).1 = (q : Int)) (hq32 : q < 32) :
    Calls Tryd.prog 58 #[.pointer (some ⟨L, 0, none⟩)] W (LineP ks At n i b vn vi vb L C W (let y := K.num s at_ (V - 1); let z := K.int y.2 (w64 (x - c.x q)); (⟨kind, (th : Int), tx, (q : Int), v, w64 (c.x q + z.1), why⟩, z.2))) := by
  have HBL := hid hL
  have HBC := hid hC
  have HL := hid hLk
  have HC := hid hCk
  have HLC := hid hLC
  have HA := hid (hK.keep s W W.drew hA (fun _ _ => rfl))
  have HK := hid hK
  have hen := hK.en
  have hei := hK.ei
  have heb := hK.eb
  dsimp only
  have HAT := hid (at_any hK T V S c kind tx at_ v x why th V s L C W hL hC hA hLk hCk hLC (hK.okm _ _ ho) ha ⟨by omega, by omega⟩)
  rw [hq] at HAT
  obtain ⟨y, hy⟩ : ∃ y, y = K.num s (at_) (V - 1) := ⟨_, rfl⟩
  have ho1 := hK.okn 1 s at_ (V - 1) ho
  rw [← hy] at HAT ho1 ⊢
  have HN1 := hid (fun W' (h : At y.2 W') => hK.int y.2 (w64 (x - c.x q)) W' h ho1 (w64_ok _))
  obtain ⟨z, hz⟩ : ∃ z, z = K.int y.2 (w64 (x - c.x q)) := ⟨_, rfl⟩
  rw [← hz] at HN1 ⊢
  have j1 := wrap_w64 (x - c.x q)
  have j3 := wrap_w64 (c.x q + z.1)
  have HQ := hid hq32
  have jt0 : (0 : Int) ≤ (q : Int) := by omega
  have jt6 : (q : Int) < 32 := by omega
  have d0 := hL.cell 0 (v := .pointer (some ⟨C, 0, none⟩)) rfl
  have c2 := hC.cell 1 (v := .int .i64 V) rfl
  clear ha hy hz hV hq hq32
  clear hL hC hLk hCk hK hA hLC ho
  unfold LineP
  unfold clo
  go_enter Tryd.func58, Tryd.ntmps58
  go_wp2_with fail
  refine HAT.out.mono ?_
  rintro e' W1 ⟨rfl, hA1, hT1, hB1⟩
  have HA1 := hid (HK.out.keep _ _ W1.drew hA1 (fun _ _ => rfl))
  have HT1 := hid hT1
  have hBC1 := hT1.blk (by simp; exact ⟨HLC.out, HC.out⟩) HBC.out
  have d0 := hB1.cell 0 (v := .pointer (some ⟨C, 0, none⟩)) rfl
  have d2 := hB1.cell 4 (v := .int .i64 (q : Int)) rfl
  have c5 := hBC1.cell (17 + q) (cdr_x T V S c HQ.out)
  have HBL1 := hid hB1
  have HBC1 := hid hBC1
  have HAA := hid hA1
  clear hA1 hT1 hBC1 hB1
  go_wp2_with fail
  go_quiet (fail)
  have HBL2 := hid (HBL1.out.below (ext_drewN (ext_refl W1) nq))
  have HBC2 := hid (HBC1.out.below (ext_drewN (ext_refl W1) nq))
  have HA2 := hid (HK.out.keep _ W1 (W1.drewN nq).drew HAA.out (fun _ _ => drewN_hp' W1 nq _))
  have HT2 := hid (HT1.out.drewN nq)
  clear d0 d2 c5 HBL1 HBC1 HAA HT1 HAT HA HBL HBC
  generalize W1.drewN nq = W2 at *
  go_wp2_with fail
  apply wp_region_knownJ (fun qq => ([.pointer (some ⟨L, 0, none⟩), .int .i64 (c.x q), .pointer (some ⟨L, 0, none⟩), .pointer (some ⟨L, 0, none⟩), .pointer (some ⟨L, 9, none⟩), .func (.func i) #[] vi, .pointer (some ⟨L, 0, none⟩), .pointer (some ⟨L, 0, none⟩), .pointer (some ⟨L, 1, none⟩), .pointer (some ⟨L, 6, none⟩), .int .i64 (x), .int .i64 (c.x q), .int .i64 (w64 (x - c.x q)), .int .i64 (z.1), .int .i64 (w64 (c.x q + z.1)), .pointer (some ⟨L, 0, none⟩), .pointer (some ⟨L, 1, none⟩), .pointer (some ⟨L, 6, none⟩), undef] : List Value).getD qq undef) (LJ W2 ks At z.2 L (lineA C ⟨kind, (th : Int), tx, (q : Int), v, w64 (c.x q + z.1), why⟩ (clo n vn) (clo i vi) (clo b vb)) 83 19 13 18)
  focus (simp [putAll, dstOf, Act.put, List.getD]; rfl)
  case hm => kernel_rfl
  case hd => kernel_rfl
  case hb => kernel_rfl
  case hng => kernel_rfl
  case hsz => kernel_rfl
  case hext => exact fun l l' w h H => H.ext (by decide) (by decide) (fun i hi => h i hi)
  case h0 => exact LJ.start
  case hstep =>
    refine ⟨?_, ?_, ?_, ?_, ?_, ?_, ?_, ?_, ?_, ?_, ?_, ?_, ?_, ?_, ?_, ?_, ?_, ?_, ?_,  trivial⟩
    · refine ⟨(fun g b h => by cases h), fun l w' hl hdp hJ hg ρ h1 h2 h3 h4 h5 => ?_⟩
      have HJ := hid hJ
      clear hJ
      have f0 : ρ (.tmp 0) = .pointer (some ⟨L, 0, none⟩) := h5 0 (by kernel_rfl)
      have h0 := HJ.out.not (i := 0) (by decide) (by decide) hl
      clear h0 h4 h5 hg
      unfold OpY
      go_simp
      first | exact ⟨rfl, HJ.out.put (i := 0) (by decide) (by decide) (by decide) hl (fun e => absurd e (by decide)) (fun e => absurd e (by decide))⟩ | exact ⟨Or.inr rfl, HJ.out.put (i := 0) (by decide) (by decide) (by decide) hl (fun e => absurd e (by decide)) (fun e => absurd e (by decide))⟩
    · refine ⟨(fun g b h => by cases h), fun l w' hl hdp hJ hg ρ h1 h2 h3 h4 h5 => ?_⟩
      have HJ := hid hJ
      clear hJ
      have f2 : ρ (.tmp 2) = .int .i64 (c.x q) := h5 2 (by kernel_rfl)
      have h0 := HJ.out.not (i := 1) (by decide) (by decide) hl
      clear h0 h4 h5 hg
      unfold OpY
      go_simp
      first | exact ⟨rfl, HJ.out.put (i := 1) (by decide) (by decide) (by decide) hl (fun e => absurd e (by decide)) (fun e => absurd e (by decide))⟩ | exact ⟨Or.inr rfl, HJ.out.put (i := 1) (by decide) (by decide) (by decide) hl (fun e => absurd e (by decide)) (fun e => absurd e (by decide))⟩
    · refine ⟨(fun g b h => by cases h), fun l w' hl hdp hJ hg ρ h1 h2 h3 h4 h5 => ?_⟩
      have HJ := hid hJ
      clear hJ
      have f0 : ρ (.tmp 0) = .pointer (some ⟨L, 0, none⟩) := h5 0 (by kernel_rfl)
      have h0 := HJ.out.not (i := 2) (by decide) (by decide) hl
      clear h0 h4 h5 hg
      unfold OpY
      go_simp
      first | exact ⟨rfl, HJ.out.put (i := 2) (by decide) (by decide) (by decide) hl (fun e => absurd e (by decide)) (fun e => absurd e (by decide))⟩ | exact ⟨Or.inr rfl, HJ.out.put (i := 2) (by decide) (by decide) (by decide) hl (fun e => absurd e (by decide)) (fun e => absurd e (by decide))⟩
    · refine ⟨(fun g b h => by cases h), fun l w' hl hdp hJ hg ρ h1 h2 h3 h4 h5 => ?_⟩
      have HJ := hid hJ
      clear hJ
      have f27 : ρ (.tmp 27) = .pointer (some ⟨L, 0, none⟩) := h4 2 27 (by kernel_rfl) (by kernel_rfl)
      have h0 := HJ.out.not (i := 3) (by decide) (by decide) hl
      clear h0 h4 h5 hg
      unfold OpY
      go_simp
      first | exact ⟨rfl, HJ.out.put (i := 3) (by decide) (by decide) (by decide) hl (fun e => absurd e (by decide)) (fun e => absurd e (by decide))⟩ | exact ⟨Or.inr rfl, HJ.out.put (i := 3) (by decide) (by decide) (by decide) hl (fun e => absurd e (by decide)) (fun e => absurd e (by decide))⟩
    · refine ⟨(fun g b h => by cases h), fun l w' hl hdp hJ hg ρ h1 h2 h3 h4 h5 => ?_⟩
      have HJ := hid hJ
      clear hJ
      have f28 : ρ (.tmp 28) = .pointer (some ⟨L, 0, none⟩) := h4 3 28 (by kernel_rfl) (by kernel_rfl)
      have h0 := HJ.out.not (i := 4) (by decide) (by decide) hl
      clear h0 h4 h5 hg
      unfold OpY
      go_simp
      first | exact ⟨rfl, HJ.out.put (i := 4) (by decide) (by decide) (by decide) hl (fun e => absurd e (by decide)) (fun e => absurd e (by decide))⟩ | exact ⟨Or.inr rfl, HJ.out.put (i := 4) (by decide) (by decide) (by decide) hl (fun e => absurd e (by decide)) (fun e => absurd e (by decide))⟩
    · refine ⟨(fun g b h => by cases h), fun l w' hl hdp hJ hg ρ h1 h2 h3 h4 h5 => ?_⟩
      have HJ := hid hJ
      clear hJ
      have f29 : ρ (.tmp 29) = .pointer (some ⟨L, 9, none⟩) := h4 4 29 (by kernel_rfl) (by kernel_rfl)
      have h0 := HJ.out.not (i := 5) (by decide) (by decide) hl
      have c : w'.cell? ⟨L, 9, none⟩ = some (.func (.func i) #[] vi) := ((HJ.out.turn h0).blk HL.out HBL2.out).cell 9 rfl
      clear h0 h4 h5 hg
      unfold OpY
      go_simp
      first | exact ⟨rfl, HJ.out.put (i := 5) (by decide) (by decide) (by decide) hl (fun e => absurd e (by decide)) (fun e => absurd e (by decide))⟩ | exact ⟨Or.inr rfl, HJ.out.put (i := 5) (by decide) (by decide) (by decide) hl (fun e => absurd e (by decide)) (fun e => absurd e (by decide))⟩
    · refine ⟨(fun g b h => by cases h), fun l w' hl hdp hJ hg ρ h1 h2 h3 h4 h5 => ?_⟩
      have HJ := hid hJ
      clear hJ
      have f0 : ρ (.tmp 0) = .pointer (some ⟨L, 0, none⟩) := h5 0 (by kernel_rfl)
      have h0 := HJ.out.not (i := 6) (by decide) (by decide) hl
      clear h0 h4 h5 hg
      unfold OpY
      go_simp
      first | exact ⟨rfl, HJ.out.put (i := 6) (by decide) (by decide) (by decide) hl (fun e => absurd e (by decide)) (fun e => absurd e (by decide))⟩ | exact ⟨Or.inr rfl, HJ.out.put (i := 6) (by decide) (by decide) (by decide) hl (fun e => absurd e (by decide)) (fun e => absurd e (by decide))⟩
    · refine ⟨(fun g b h => by cases h), fun l w' hl hdp hJ hg ρ h1 h2 h3 h4 h5 => ?_⟩
      have HJ := hid hJ
      clear hJ
      have f31 : ρ (.tmp 31) = .pointer (some ⟨L, 0, none⟩) := h4 6 31 (by kernel_rfl) (by kernel_rfl)
      have h0 := HJ.out.not (i := 7) (by decide) (by decide) hl
      clear h0 h4 h5 hg
      unfold OpY
      go_simp
      first | exact ⟨rfl, HJ.out.put (i := 7) (by decide) (by decide) (by decide) hl (fun e => absurd e (by decide)) (fun e => absurd e (by decide))⟩ | exact ⟨Or.inr rfl, HJ.out.put (i := 7) (by decide) (by decide) (by decide) hl (fun e => absurd e (by decide)) (fun e => absurd e (by decide))⟩
    · refine ⟨(fun g b h => by cases h), fun l w' hl hdp hJ hg ρ h1 h2 h3 h4 h5 => ?_⟩
      have HJ := hid hJ
      clear hJ
      have f32 : ρ (.tmp 32) = .pointer (some ⟨L, 0, none⟩) := h4 7 32 (by kernel_rfl) (by kernel_rfl)
      have h0 := HJ.out.not (i := 8) (by decide) (by decide) hl
      clear h0 h4 h5 hg
      unfold OpY
      go_simp
      first | exact ⟨rfl, HJ.out.put (i := 8) (by decide) (by decide) (by decide) hl (fun e => absurd e (by decide)) (fun e => absurd e (by decide))⟩ | exact ⟨Or.inr rfl, HJ.out.put (i := 8) (by decide) (by decide) (by decide) hl (fun e => absurd e (by decide)) (fun e => absurd e (by decide))⟩
    · refine ⟨(fun g b h => by cases h), fun l w' hl hdp hJ hg ρ h1 h2 h3 h4 h5 => ?_⟩
      have HJ := hid hJ
      clear hJ
      have f33 : ρ (.tmp 33) = .pointer (some ⟨L, 1, none⟩) := h4 8 33 (by kernel_rfl) (by kernel_rfl)
      have h0 := HJ.out.not (i := 9) (by decide) (by decide) hl
      clear h0 h4 h5 hg
      unfold OpY
      go_simp
      first | exact ⟨rfl, HJ.out.put (i := 9) (by decide) (by decide) (by decide) hl (fun e => absurd e (by decide)) (fun e => absurd e (by decide))⟩ | exact ⟨Or.inr rfl, HJ.out.put (i := 9) (by decide) (by decide) (by decide) hl (fun e => absurd e (by decide)) (fun e => absurd e (by decide))⟩
    · refine ⟨(fun g b h => by cases h), fun l w' hl hdp hJ hg ρ h1 h2 h3 h4 h5 => ?_⟩
      have HJ := hid hJ
      clear hJ
      have f34 : ρ (.tmp 34) = .pointer (some ⟨L, 6, none⟩) := h4 9 34 (by kernel_rfl) (by kernel_rfl)
      have h0 := HJ.out.not (i := 10) (by decide) (by decide) hl
      have c : w'.cell? ⟨L, 6, none⟩ = some (.int .i64 (x)) := ((HJ.out.turn h0).blk HL.out HBL2.out).cell 6 rfl
      clear h0 h4 h5 hg
      unfold OpY
      go_simp
      first | exact ⟨rfl, HJ.out.put (i := 10) (by decide) (by decide) (by decide) hl (fun e => absurd e (by decide)) (fun e => absurd e (by decide))⟩ | exact ⟨Or.inr rfl, HJ.out.put (i := 10) (by decide) (by decide) (by decide) hl (fun e => absurd e (by decide)) (fun e => absurd e (by decide))⟩
    · refine ⟨(fun g b h => by cases h), fun l w' hl hdp hJ hg ρ h1 h2 h3 h4 h5 => ?_⟩
      have HJ := hid hJ
      clear hJ
      have f2 : ρ (.tmp 2) = .int .i64 (c.x q) := h5 2 (by kernel_rfl)
      have h0 := HJ.out.not (i := 11) (by decide) (by decide) hl
      clear h0 h4 h5 hg
      unfold OpY
      go_simp
      first | exact ⟨rfl, HJ.out.put (i := 11) (by decide) (by decide) (by decide) hl (fun e => absurd e (by decide)) (fun e => absurd e (by decide))⟩ | exact ⟨Or.inr rfl, HJ.out.put (i := 11) (by decide) (by decide) (by decide) hl (fun e => absurd e (by decide)) (fun e => absurd e (by decide))⟩
    · refine ⟨(fun g b h => by cases h), fun l w' hl hdp hJ hg ρ h1 h2 h3 h4 h5 => ?_⟩
      have HJ := hid hJ
      clear hJ
      have f35 : ρ (.tmp 35) = .int .i64 (x) := h4 10 35 (by kernel_rfl) (by kernel_rfl)
      have f36 : ρ (.tmp 36) = .int .i64 (c.x q) := h4 11 36 (by kernel_rfl) (by kernel_rfl)
      have h0 := HJ.out.not (i := 12) (by decide) (by decide) hl
      clear h0 h4 h5 hg
      unfold OpY
      go_simp
      first | exact ⟨rfl, HJ.out.put (i := 12) (by decide) (by decide) (by decide) hl (fun e => absurd e (by decide)) (fun e => absurd e (by decide))⟩ | exact ⟨Or.inr rfl, HJ.out.put (i := 12) (by decide) (by decide) (by decide) hl (fun e => absurd e (by decide)) (fun e => absurd e (by decide))⟩
    · refine ⟨(fun g b h => by cases h), fun l w' hl hdp hJ hg ρ h1 h2 h3 h4 h5 => ?_⟩
      have HJ := hid hJ
      clear hJ
      have f30 : ρ (.tmp 30) = .func (.func i) #[] vi := h4 5 30 (by kernel_rfl) (by kernel_rfl)
      have f37 : ρ (.tmp 37) = .int .i64 (w64 (x - c.x q)) := h4 12 37 (by kernel_rfl) (by kernel_rfl)
      clear h4 h5 hg
      unfold OpY
      go_simp
      unfold OpR
      have h0 := HJ.out.pre hl
      subst h0
      refine (HN1.out _ HA2.out).mono ?_
      rintro e' w'' ⟨rfl, ha', ht'⟩
      first | exact ⟨_, rfl, rfl, HJ.out.call (by decide) (by decide) hl (by decide) ha' ht'⟩ | exact ⟨_, rfl, Or.inr rfl, HJ.out.call (by decide) (by decide) hl (by decide) ha' ht'⟩
    · refine ⟨(fun g b h => by cases h), fun l w' hl hdp hJ hg ρ h1 h2 h3 h4 h5 => ?_⟩
      have HJ := hid hJ
      clear hJ
      have f26 : ρ (.tmp 26) = .int .i64 (c.x q) := h4 1 26 (by kernel_rfl) (by kernel_rfl)
      have f38 : ρ (.tmp 38) = .int .i64 (z.1) := h4 13 38 (by kernel_rfl) (by kernel_rfl)
      have h0 := HJ.out.not (i := 14) (by decide) (by decide) hl
      clear h0 h4 h5 hg
      unfold OpY
      go_simp
      first | exact ⟨rfl, HJ.out.put (i := 14) (by decide) (by decide) (by decide) hl (fun e => absurd e (by decide)) (fun e => absurd e (by decide))⟩ | exact ⟨Or.inr rfl, HJ.out.put (i := 14) (by decide) (by decide) (by decide) hl (fun e => absurd e (by decide)) (fun e => absurd e (by decide))⟩
    · refine ⟨(fun g b h => by cases h), fun l w' hl hdp hJ hg ρ h1 h2 h3 h4 h5 => ?_⟩
      have HJ := hid hJ
      clear hJ
      have f25 : ρ (.tmp 25) = .pointer (some ⟨L, 0, none⟩) := h4 0 25 (by kernel_rfl) (by kernel_rfl)
      have h0 := HJ.out.not (i := 15) (by decide) (by decide) hl
      clear h0 h4 h5 hg
      unfold OpY
      go_simp
      first | exact ⟨rfl, HJ.out.put (i := 15) (by decide) (by decide) (by decide) hl (fun e => absurd e (by decide)) (fun e => absurd e (by decide))⟩ | exact ⟨Or.inr rfl, HJ.out.put (i := 15) (by decide) (by decide) (by decide) hl (fun e => absurd e (by decide)) (fun e => absurd e (by decide))⟩
    · refine ⟨(fun g b h => by cases h), fun l w' hl hdp hJ hg ρ h1 h2 h3 h4 h5 => ?_⟩
      have HJ := hid hJ
      clear hJ
      have f40 : ρ (.tmp 40) = .pointer (some ⟨L, 0, none⟩) := h4 15 40 (by kernel_rfl) (by kernel_rfl)
      have h0 := HJ.out.not (i := 16) (by decide) (by decide) hl
      clear h0 h4 h5 hg
      unfold OpY
      go_simp
      first | exact ⟨rfl, HJ.out.put (i := 16) (by decide) (by decide) (by decide) hl (fun e => absurd e (by decide)) (fun _ => hdp 15 (by kernel_rfl))⟩ | exact ⟨Or.inr rfl, HJ.out.put (i := 16) (by decide) (by decide) (by decide) hl (fun e => absurd e (by decide)) (fun _ => hdp 15 (by kernel_rfl))⟩
    · refine ⟨(fun g b h => by cases h), fun l w' hl hdp hJ hg ρ h1 h2 h3 h4 h5 => ?_⟩
      have HJ := hid hJ
      clear hJ
      have f41 : ρ (.tmp 41) = .pointer (some ⟨L, 1, none⟩) := h4 16 41 (by kernel_rfl) (by kernel_rfl)
      have h0 := HJ.out.not (i := 17) (by decide) (by decide) hl
      clear h0 h4 h5 hg
      unfold OpY
      go_simp
      first | exact ⟨rfl, HJ.out.put (i := 17) (by decide) (by decide) (by decide) hl (fun _ => hdp 16 (by kernel_rfl)) (fun e => absurd e (by decide))⟩ | exact ⟨Or.inr rfl, HJ.out.put (i := 17) (by decide) (by decide) (by decide) hl (fun _ => hdp 16 (by kernel_rfl)) (fun e => absurd e (by decide))⟩
    · refine ⟨(fun g b h => by cases h), fun l w' hl hdp hJ hg ρ h1 h2 h3 h4 h5 => ?_⟩
      have HJ := hid hJ
      clear hJ
      have f42 : ρ (.tmp 42) = .pointer (some ⟨L, 6, none⟩) := h4 17 42 (by kernel_rfl) (by kernel_rfl)
      have f39 : ρ (.tmp 39) = .int .i64 (w64 (c.x q + z.1)) := h4 14 39 (by kernel_rfl) (by kernel_rfl)
      have h15 := hdp 17 (by kernel_rfl)
      have h14 := HJ.out.d1 h15
      have h13 := HJ.out.d2 h14
      have hall : ∀ q, q < 19 → q ≠ 18 → l q = true := all_of (si := 18) h13 h14 (by kernel_rfl) hdp
      have h0 := hl
      have hb := (HJ.out.turn h0).blk HL.out HBL2.out
      have c := hb.cell 6 rfl
      have z := hb.free 6
      have HALL := hid hall
      clear hall hb h0 h13 h14 h15 h4 h5 hg
      unfold OpY
      go_simp
      exact HJ.out.store HK.out.keep HL.out HBL2.out (by decide) (by decide) (by decide) hl HALL.out rfl
  case hdone =>
    intro W3 hJ
    have HF := hid (hJ.fin rfl)
    clear hJ
    go_wp2_with fail
    go_end0
    exact ⟨rfl, HF.out.1, HT2.out.trans HF.out.2.1, HF.out.2.2⟩

end
end Go.Proofs.YtokkafiphchejaaDoor
