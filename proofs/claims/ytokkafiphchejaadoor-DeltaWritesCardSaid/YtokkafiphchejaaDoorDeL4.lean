/-
  The methods of a line, for abstract closures (printed by gen_line2.py).
-/
import Derived.Test.YtokkafiphchejaaDoorDeL3c
import Derived.Deep.MidRow
namespace Go.Proofs.YtokkafiphchejaaDoor
set_option linter.unusedVariables false
set_option linter.unusedSimpArgs false
set_option linter.unusedVariables false
open Go Go.RowKit
theorem there_blk {w : World} {b : Nat} {cs : Array Value} {t : TypeId} (h : Blk w b cs t) {n : Nat} (hn : n = cs.size) : w.there b 0 n := by
  subst hn
  intro j hj
  rw [Nat.zero_add]
  exact ⟨by rw [h.cell j (v := cs[j]) (by simp [hj])]; rfl, h.free j⟩
theorem setCells_below {B b : Nat} (hb : B ≤ b) : ∀ (vs : List Value) (o : Nat) (w : World), Below B w (w.setCells b o vs)
  | [], _, w => Below.refl _ _
  | v :: r, o, w => ((Below.refl B w).setCell (p := ⟨b, o, none⟩) hb v).trans (setCells_below hb r (o + 1) _)
theorem setCells_cell {w : World} {b : Nat} {cs : Array Value} {t : TypeId} (h : Blk w b cs t) (vs : List Value) (hl : vs.length = cs.size) (k : Nat) {v : Value} (hv : vs[k]? = some v) : (w.setCells b 0 vs).cell? ⟨b, k, none⟩ = some v := by
  obtain ⟨hk, rfl⟩ := List.getElem?_eq_some_iff.1 hv
  have := World.cell?_setCells_in b vs 0 w (fun j hj => by rw [Nat.zero_add, h.cell j (v := cs[j]'(by omega)) (by simp)]; rfl) k hk
  rw [Nat.zero_add] at this
  exact this
def overT : Array Value := #[.nilFunc, .func (.func 56) #[] #[], .func (.func 57) #[] #[], .func (.func 58) #[] #[], .func (.func 59) #[] #[], .func (.func 60) #[] #[], .func (.func 59) #[] #[], .func (.func 61) #[] #[], .func (.func 58) #[] #[], .func (.func 59) #[] #[], .func (.func 62) #[] #[], .func (.func 59) #[] #[], .func (.func 63) #[] #[], .func (.func 63) #[] #[]]
theorem overT_len : overT.toList.length = (#[.nilFunc, .nilFunc, .nilFunc, .nilFunc, .nilFunc, .nilFunc, .nilFunc, .nilFunc, .nilFunc, .nilFunc, .nilFunc, .nilFunc, .nilFunc, .nilFunc] : Array Value).size := rfl
theorem overT_cells {W : World} {b : Nat} {t : TypeId} (h : Blk W b #[.nilFunc, .nilFunc, .nilFunc, .nilFunc, .nilFunc, .nilFunc, .nilFunc, .nilFunc, .nilFunc, .nilFunc, .nilFunc, .nilFunc, .nilFunc, .nilFunc] t) (k : Nat) (v : Value) (hv : overT.toList[k]? = some v) : (W.setCells b 0 overT.toList).cell? ⟨b, k, none⟩ = some v := setCells_cell h overT.toList overT_len k hv
theorem TwoSt.cellAt {W0 w' : World} {L p q m n o : Nat} {x y v : Value} {l : Nat → Bool} {cs : Array Value} {t : TypeId} (H : TwoSt W0 L p q x y m n l w') (hB : Blk W0 L cs t) (h0 : cs[o]? = some v) (hp : o ≠ p) (hq : o ≠ q) : w'.cell? ⟨L, o, none⟩ = some v := by
  rw [H.is]
  split
  · exact ((hB.set p x).set q y).cell o (by rw [Array.getElem?_setIfInBounds_ne (Ne.symm hq), Array.getElem?_setIfInBounds_ne (Ne.symm hp)]; exact h0)
  · split
    · exact (hB.set p x).cell o (by rw [Array.getElem?_setIfInBounds_ne (Ne.symm hp)]; exact h0)
    · exact hB.cell o h0
theorem TwoSt.far {W0 w' : World} {L C p q m n : Nat} {x y : Value} {l : Nat → Bool} {cs : Array Value} {t : TypeId} (H : TwoSt W0 L p q x y m n l w') (hB : Blk W0 C cs t) (hne : C ≠ L) : Blk w' C cs t := by
  rw [H.is]
  split
  · exact (hB.set_other _ _ hne).set_other _ _ hne
  · split
    · exact hB.set_other _ _ hne
    · exact hB
/-- What an event's own method asks. -/
structure MethOk {σ : Type} (K : Cl σ) (Px : Int → Prop) (V S : Int) (c : Cdr) (kind : Int) (th : Nat) (tx at_ v x why : Int) (s : σ) : Prop where
  v0 : 0 ≤ v ∧ v ≤ 1099511627776
  cl : 0 ≤ c.clock ∧ c.clock ≤ 1099511627776
  bg : 0 ≤ c.begun th ∧ c.begun th ≤ 1099511627776
  wy : 0 ≤ why ∧ why ≤ 255
  k1 : kind = 1 → Px tx ∧ Px (v - c.clock)
  k2 : kind = 2 → Px at_ ∧ Px (c.begun th - v)
  k3 : kind = 3 ∨ kind = 8 → Px at_ ∧ ∃ q : Nat, (K.num s at_ (V - 1)).1 = (q : Int) ∧ q < 32
  k4 : kind = 4 ∨ kind = 6 ∨ kind = 9 ∨ kind = 11 → Px at_
  k5 : kind = 5 → Px (v - c.clock)
  k7 : kind = 7 → Px (min v 1)
  k10 : kind = 10 → Px (why - 1) ∧ Px at_ ∧ (K.num s (why - 1) 5).1 ≤ 5
section
variable {σ : Type} {K : Cl σ} {ks : List Nat} {At : σ → World → Prop} {Px : Int → Prop} {Ok : Nat → σ → Prop} {n i b : FuncId} {vn vi vb : Array Value}

set_option maxRecDepth 100000 in
set_option maxHeartbeats 4000000 in
theorem over_any (hK : ClOk K ks At Px Ok n i b vn vi vb) (T V S : Int) (c : Cdr) (kind tx at_ v x why : Int) (th : Nat) (s : σ) (L C : Nat) (W : World) (hL : Blk W L (lineA C ⟨kind, (th : Int), tx, at_, v, x, why⟩ (clo n vn) (clo i vi) (clo b vb)) 83) (hC : Blk W C (cdrA T V S c) 74) (hA : At s W) (hLk : L ∉ ks) (hCk : C ∉ ks) (hLC : C ≠ L) (ho : Ok 3 s) (hT : 1 ≤ T ∧ T ≤ 6) (hV : 1 ≤ V ∧ V ≤ 32) (hS : 1 ≤ S ∧ S ≤ 32) (hk : 1 ≤ kind ∧ kind ≤ 13) (hth : (th : Int) < T) (hla : 0 ≤ c.last ∧ c.last < T) (hks : ∀ k ∈ ks, k < W.heap.size) (hp : Px ((kind - 1) * T + ((th : Int) - c.last + T) % T)) (hyr : 0 ≤ (K.num s ((kind - 1) * T + ((th : Int) - c.last + T) % T) (13 * T - 1)).1 ∧ (K.num s ((kind - 1) * T + ((th : Int) - c.last + T) % T) (13 * T - 1)).1 ≤ 13 * T - 1) (hM : ∀ t' : Nat, (((K.num s ((kind - 1) * T + ((th : Int) - c.last + T) % T) (13 * T - 1)).1 % T + c.last) % T = (t' : Int)) → t' < 6 → MethOk K Px V S c ((K.num s ((kind - 1) * T + ((th : Int) - c.last + T) % T) (13 * T - 1)).1 / T + 1) t' tx at_ v x why (K.num s ((kind - 1) * T + ((th : Int) - c.last + T) % T) (13 * T - 1)).2) :
    Calls Tryd.prog 35 #[.pointer (some ⟨L, 0, none⟩)] W (LineP ks At n i b vn vi vb L C W (lineG K T V S c ⟨kind, (th : Int), tx, at_, v, x, why⟩ s)) := by
  have HBL := hid hL
  have HBC := hid hC
  have HL := hid hLk
  have HC := hid hCk
  have HLC := hid hLC
  have HA := hid (hK.keep s W W.drew hA (fun _ _ => rfl))
  have HK := hid hK
  have hen := hK.en
  have hei := hK.ei
  have heb := hK.eb
  obtain ⟨p, hpd⟩ : ∃ p, p = (kind - 1) * T := ⟨_, rfl⟩
  obtain ⟨r, hrd⟩ : ∃ r, r = ((th : Int) - c.last + T) % T := ⟨_, rfl⟩
  have e0 : lineG K T V S c ⟨kind, (th : Int), tx, at_, v, x, why⟩ s = lineK K V S c ⟨(K.num s ((kind - 1) * T + ((th : Int) - c.last + T) % T) (13 * T - 1)).1 / T + 1, ((K.num s ((kind - 1) * T + ((th : Int) - c.last + T) % T) (13 * T - 1)).1 % T + c.last) % T, tx, at_, v, x, why⟩ (K.num s ((kind - 1) * T + ((th : Int) - c.last + T) % T) (13 * T - 1)).2 := rfl
  rw [e0]
  clear e0
  rw [← hpd, ← hrd] at hp hyr hM ⊢
  have hr0 : 0 ≤ r ∧ r < T := by rw [hrd]; exact ⟨Int.emod_nonneg _ (by omega), Int.emod_lt_of_pos _ (by omega)⟩
  have hpr : 0 ≤ p ∧ p ≤ 72 := by
    rw [hpd]
    have h1 := Int.mul_nonneg (show (0 : Int) ≤ kind - 1 by omega) (show (0 : Int) ≤ T by omega)
    have h2 : (kind - 1) * T ≤ 12 * T := Int.mul_le_mul_of_nonneg_right (by omega) (by omega)
    omega
  have HN := hid (fun W' (h : At s W') => hK.num s (p + r) (13 * T - 1) W' h (hK.okm _ _ ho) hp ⟨by omega, by omega⟩)
  obtain ⟨y, hy⟩ : ∃ y, y = K.num s (p + r) (13 * T - 1) := ⟨_, rfl⟩
  have ho2 := hK.okn 2 s (p + r) (13 * T - 1) ho
  rw [← hy] at HN hyr hM ho2 ⊢
  have HO2 := hid ho2
  have HO1 := hid (hK.okm _ _ ho2)
  clear ho2
  have k0 : IntKind.i64.wrap kind = kind := IntWalk.i64_in _ (by omega)
  have k1 : IntKind.i64.wrap (kind - 1) = kind - 1 := IntWalk.i64_in _ (by omega)
  have k2 : IntKind.i64.wrap ((kind - 1) * T) = p := by rw [← hpd]; exact IntWalk.i64_in _ (by omega)
  have a1 : IntKind.i64.wrap ((th : Int) - c.last) = (th : Int) - c.last := IntWalk.i64_in _ (by omega)
  have a2 : IntKind.i64.wrap ((th : Int) - c.last + T) = (th : Int) - c.last + T := IntWalk.i64_in _ (by omega)
  have hr1 : ((th : Int) - c.last + T).tmod T = r := by rw [Int.tmod_eq_emod_of_nonneg (by omega)]; exact hrd.symm
  have hr2 : IntKind.i64.wrap r = r := IntWalk.i64_in _ (by omega)
  have hs1 : IntKind.i64.wrap (p + r) = p + r := IntWalk.i64_in _ (by omega)
  have m1 : IntKind.i64.wrap (13 * T) = 13 * T := IntWalk.i64_in _ (by omega)
  have m2 : IntKind.i64.wrap (13 * T - 1) = 13 * T - 1 := IntWalk.i64_in _ (by omega)
  have t0 : (T == 0) = false := by simp; omega
  have t1 : ¬ T = 0 := by omega
  have t2 : decide (T = 0) = false := by simp; omega
  have t3 : ¬ T = -1 := by omega
  have t4 : (T == -1) = false := by simp; omega
  obtain ⟨kq, hkq⟩ : ∃ kq, kq = y.1 / T := ⟨_, rfl⟩
  obtain ⟨rr, hrr⟩ : ∃ rr, rr = y.1 % T := ⟨_, rfl⟩
  have hkr : 0 ≤ kq ∧ kq ≤ 12 := by
    rw [hkq]
    refine ⟨Int.ediv_nonneg hyr.1 (by omega), ?_⟩
    have := Int.ediv_lt_of_lt_mul (a := y.1) (b := 13) (c := T) (by omega) (by omega)
    omega
  have hrrr : 0 ≤ rr ∧ rr < T := by rw [hrr]; exact ⟨Int.emod_nonneg _ (by omega), Int.emod_lt_of_pos _ (by omega)⟩
  obtain ⟨t', ht'⟩ : ∃ t' : Nat, (rr + c.last) % T = (t' : Int) := Int.eq_ofNat_of_zero_le (Int.emod_nonneg _ (by omega))
  have htp : (t' : Int) < T := by rw [← ht']; exact Int.emod_lt_of_pos _ (by omega)
  have HTP := hid (show t' < 6 by omega)
  have HM := hid (hM t' (by rw [← hrr]; exact ht') (by omega))
  rw [← hkq] at HM ⊢
  rw [← hrr, ht']
  have hq1 : y.1.tdiv T = kq := by rw [Int.tdiv_eq_ediv_of_nonneg hyr.1]; exact hkq.symm
  have hq2 : IntKind.i64.wrap kq = kq := IntWalk.i64_in _ (by omega)
  obtain ⟨kk, hkk⟩ : ∃ kk, kk = kq + 1 := ⟨_, rfl⟩
  rw [← hkk] at HM ⊢
  have hq3 : IntKind.i64.wrap (kq + 1) = kk := by rw [hkk]; exact IntWalk.i64_in _ (by omega)
  have hq4 : IntKind.u8.wrap kk = kk := by rw [hkk]; simp only [IntKind.wrap, IntKind.bits, IntKind.signed]; simp; omega
  have r1 : y.1.tmod T = rr := by rw [Int.tmod_eq_emod_of_nonneg hyr.1]; exact hrr.symm
  have r2 : IntKind.i64.wrap rr = rr := IntWalk.i64_in _ (by omega)
  have r3 : IntKind.i64.wrap (rr + c.last) = rr + c.last := IntWalk.i64_in _ (by omega)
  have r4 : (rr + c.last).tmod T = (t' : Int) := by rw [Int.tmod_eq_emod_of_nonneg (by omega)]; exact ht'
  have r5 : IntKind.i64.wrap (t' : Int) = (t' : Int) := IntWalk.i64_in _ (by omega)
  have HKR := hid (show 1 ≤ kk ∧ kk ≤ 13 by omega)
  have HVV := hid hV
  have HSS := hid hS
  have HKS := hid (fun k (hk : k ∈ ks) (W' : World) (hw : W.heap.size ≤ W'.heap.size) => Nat.lt_of_lt_of_le (hks k hk) hw)
  have HAA := hid hA
  have d0 := hL.cell 0 (v := .pointer (some ⟨C, 0, none⟩)) rfl
  have d1 := hL.cell 1 (v := .int .u8 kind) rfl
  have d2 := hL.cell 2 (v := .int .i64 (th : Int)) rfl
  have c0 := hC.cell 0 (v := .int .i64 T) rfl
  have c3 := hC.cell 3 (v := .int .i64 c.last) rfl
  clear hT hV hS hk hth hla hks hp hyr hM hpd hrd hr0 hpr hy hkq hkk hrr hkr hrrr ht' htp
  clear hL hC hLk hCk hK hA hLC ho
  unfold LineP
  unfold clo
  go_enter Tryd.func35, Tryd.ntmps35
  go_wp2_with fail
  go_quiet (fail)
  have HBL1 := hid (HBL.out.below (ext_drewN (ext_refl W) nq))
  have HBC1 := hid (HBC.out.below (ext_drewN (ext_refl W) nq))
  have HA1 := hid (HK.out.keep s W (W.drewN nq).drew HAA.out (fun _ _ => drewN_hp' W nq _))
  have HT1 : Hid (Turn ks W (W.drewN nq)) := hid ((Turn.refl ks W).drewN nq)
  clear d0 d1 d2 c0 c3 HBL HBC HA HAA k0 k1 k2 a1 a2 hr1 hr2 hs1
  generalize W.drewN nq = W1 at *
  go_wp2_with fail
  apply wp_region_knownJ9 (fun qq => ([.pointer (some ⟨L, 0, none⟩), .pointer (some ⟨L, 0, none⟩), .pointer (some ⟨L, 8, none⟩), .func (.func n) #[] vn, .int .i64 (p + r), .pointer (some ⟨L, 0, none⟩), .pointer (some ⟨L, 0, none⟩), .pointer (some ⟨L, 0, none⟩), .pointer (some ⟨C, 0, none⟩), .pointer (some ⟨C, 0, none⟩), .pointer (some ⟨C, 0, none⟩), .int .i64 (T), .int .i64 (13 * T), .int .i64 (13 * T - 1), .int .i64 (y.1), .int .i64 (y.1)] : List Value).getD qq undef) (LK W1 ks At y.2 16 14 15)
  focus (simp [putAll, dstOf, Act.put, List.getD]; rfl)
  case hm => kernel_rfl
  case hd => kernel_rfl
  case hb => kernel_rfl
  case hng => kernel_rfl
  case hsz => kernel_rfl
  case hext => exact fun l l' w h H => H.ext (by decide) (by decide) (fun i hi => h i hi)
  case h0 => exact LK.start
  case hstep =>
    refine ⟨?_, ?_, ?_, ?_, ?_, ?_, ?_, ?_, ?_, ?_, ?_, ?_, ?_, ?_, ?_, ?_,  trivial⟩
    · refine ⟨(fun g b h => by cases h), fun l w' hl hdp hJ hg ρ h1 h2 h3 h4 h5 => ?_⟩
      have HJ := hid hJ
      clear hJ
      have f0 : ρ (.tmp 0) = .pointer (some ⟨L, 0, none⟩) := h5 0 (undone_far (by kernel_rfl))
      have h0 := HJ.out.not (i := 0) (by decide) (by decide) hl
      clear h0 h4 h5 hg
      unfold OpY
      go_simp
      first | exact ⟨rfl, HJ.out.put (i := 0) (by decide) (by decide) (by decide) hl⟩ | exact ⟨Or.inr rfl, HJ.out.put (i := 0) (by decide) (by decide) (by decide) hl⟩
    · refine ⟨(fun g b h => by cases h), fun l w' hl hdp hJ hg ρ h1 h2 h3 h4 h5 => ?_⟩
      have HJ := hid hJ
      clear hJ
      have f49 : ρ (.tmp 49) = .pointer (some ⟨L, 0, none⟩) := h4 0 49 (by kernel_rfl) (by kernel_rfl)
      have h0 := HJ.out.not (i := 1) (by decide) (by decide) hl
      clear h0 h4 h5 hg
      unfold OpY
      go_simp
      first | exact ⟨rfl, HJ.out.put (i := 1) (by decide) (by decide) (by decide) hl⟩ | exact ⟨Or.inr rfl, HJ.out.put (i := 1) (by decide) (by decide) (by decide) hl⟩
    · refine ⟨(fun g b h => by cases h), fun l w' hl hdp hJ hg ρ h1 h2 h3 h4 h5 => ?_⟩
      have HJ := hid hJ
      clear hJ
      have f50 : ρ (.tmp 50) = .pointer (some ⟨L, 0, none⟩) := h4 1 50 (by kernel_rfl) (by kernel_rfl)
      have h0 := HJ.out.not (i := 2) (by decide) (by decide) hl
      clear h0 h4 h5 hg
      unfold OpY
      go_simp
      first | exact ⟨rfl, HJ.out.put (i := 2) (by decide) (by decide) (by decide) hl⟩ | exact ⟨Or.inr rfl, HJ.out.put (i := 2) (by decide) (by decide) (by decide) hl⟩
    · refine ⟨(fun g b h => by cases h), fun l w' hl hdp hJ hg ρ h1 h2 h3 h4 h5 => ?_⟩
      have HJ := hid hJ
      clear hJ
      have f51 : ρ (.tmp 51) = .pointer (some ⟨L, 8, none⟩) := h4 2 51 (by kernel_rfl) (by kernel_rfl)
      have h0 := HJ.out.not (i := 3) (by decide) (by decide) hl
      have c : w'.cell? ⟨L, 8, none⟩ = some (.func (.func n) #[] vn) := ((HJ.out.turn).blk HL.out HBL1.out).cell 8 rfl
      clear h0 h4 h5 hg
      unfold OpY
      go_simp
      first | exact ⟨rfl, HJ.out.put (i := 3) (by decide) (by decide) (by decide) hl⟩ | exact ⟨Or.inr rfl, HJ.out.put (i := 3) (by decide) (by decide) (by decide) hl⟩
    · refine ⟨(fun g b h => by cases h), fun l w' hl hdp hJ hg ρ h1 h2 h3 h4 h5 => ?_⟩
      have HJ := hid hJ
      clear hJ
      have f2 : ρ (.tmp 2) = .int .i64 (p + r) := h5 2 (undone_one 15 (by kernel_rfl) (HJ.out.not (i := 4) (by decide) (by decide) hl))
      have h0 := HJ.out.not (i := 4) (by decide) (by decide) hl
      clear h0 h4 h5 hg
      unfold OpY
      go_simp
      first | exact ⟨rfl, HJ.out.put (i := 4) (by decide) (by decide) (by decide) hl⟩ | exact ⟨Or.inr rfl, HJ.out.put (i := 4) (by decide) (by decide) (by decide) hl⟩
    · refine ⟨(fun g b h => by cases h), fun l w' hl hdp hJ hg ρ h1 h2 h3 h4 h5 => ?_⟩
      have HJ := hid hJ
      clear hJ
      have f0 : ρ (.tmp 0) = .pointer (some ⟨L, 0, none⟩) := h5 0 (undone_far (by kernel_rfl))
      have h0 := HJ.out.not (i := 5) (by decide) (by decide) hl
      clear h0 h4 h5 hg
      unfold OpY
      go_simp
      first | exact ⟨rfl, HJ.out.put (i := 5) (by decide) (by decide) (by decide) hl⟩ | exact ⟨Or.inr rfl, HJ.out.put (i := 5) (by decide) (by decide) (by decide) hl⟩
    · refine ⟨(fun g b h => by cases h), fun l w' hl hdp hJ hg ρ h1 h2 h3 h4 h5 => ?_⟩
      have HJ := hid hJ
      clear hJ
      have f54 : ρ (.tmp 54) = .pointer (some ⟨L, 0, none⟩) := h4 5 54 (by kernel_rfl) (by kernel_rfl)
      have h0 := HJ.out.not (i := 6) (by decide) (by decide) hl
      clear h0 h4 h5 hg
      unfold OpY
      go_simp
      first | exact ⟨rfl, HJ.out.put (i := 6) (by decide) (by decide) (by decide) hl⟩ | exact ⟨Or.inr rfl, HJ.out.put (i := 6) (by decide) (by decide) (by decide) hl⟩
    · refine ⟨(fun g b h => by cases h), fun l w' hl hdp hJ hg ρ h1 h2 h3 h4 h5 => ?_⟩
      have HJ := hid hJ
      clear hJ
      have f55 : ρ (.tmp 55) = .pointer (some ⟨L, 0, none⟩) := h4 6 55 (by kernel_rfl) (by kernel_rfl)
      have h0 := HJ.out.not (i := 7) (by decide) (by decide) hl
      clear h0 h4 h5 hg
      unfold OpY
      go_simp
      first | exact ⟨rfl, HJ.out.put (i := 7) (by decide) (by decide) (by decide) hl⟩ | exact ⟨Or.inr rfl, HJ.out.put (i := 7) (by decide) (by decide) (by decide) hl⟩
    · refine ⟨(fun g b h => by cases h), fun l w' hl hdp hJ hg ρ h1 h2 h3 h4 h5 => ?_⟩
      have HJ := hid hJ
      clear hJ
      have f56 : ρ (.tmp 56) = .pointer (some ⟨L, 0, none⟩) := h4 7 56 (by kernel_rfl) (by kernel_rfl)
      have h0 := HJ.out.not (i := 8) (by decide) (by decide) hl
      have c : w'.cell? ⟨L, 0, none⟩ = some (.pointer (some ⟨C, 0, none⟩)) := ((HJ.out.turn).blk HL.out HBL1.out).cell 0 rfl
      clear h0 h4 h5 hg
      unfold OpY
      go_simp
      first | exact ⟨rfl, HJ.out.put (i := 8) (by decide) (by decide) (by decide) hl⟩ | exact ⟨Or.inr rfl, HJ.out.put (i := 8) (by decide) (by decide) (by decide) hl⟩
    · refine ⟨(fun g b h => by cases h), fun l w' hl hdp hJ hg ρ h1 h2 h3 h4 h5 => ?_⟩
      have HJ := hid hJ
      clear hJ
      have f57 : ρ (.tmp 57) = .pointer (some ⟨C, 0, none⟩) := h4 8 57 (by kernel_rfl) (by kernel_rfl)
      have h0 := HJ.out.not (i := 9) (by decide) (by decide) hl
      clear h0 h4 h5 hg
      unfold OpY
      go_simp
      first | exact ⟨rfl, HJ.out.put (i := 9) (by decide) (by decide) (by decide) hl⟩ | exact ⟨Or.inr rfl, HJ.out.put (i := 9) (by decide) (by decide) (by decide) hl⟩
    · refine ⟨(fun g b h => by cases h), fun l w' hl hdp hJ hg ρ h1 h2 h3 h4 h5 => ?_⟩
      have HJ := hid hJ
      clear hJ
      have f58 : ρ (.tmp 58) = .pointer (some ⟨C, 0, none⟩) := h4 9 58 (by kernel_rfl) (by kernel_rfl)
      have h0 := HJ.out.not (i := 10) (by decide) (by decide) hl
      clear h0 h4 h5 hg
      unfold OpY
      go_simp
      first | exact ⟨rfl, HJ.out.put (i := 10) (by decide) (by decide) (by decide) hl⟩ | exact ⟨Or.inr rfl, HJ.out.put (i := 10) (by decide) (by decide) (by decide) hl⟩
    · refine ⟨(fun g b h => by cases h), fun l w' hl hdp hJ hg ρ h1 h2 h3 h4 h5 => ?_⟩
      have HJ := hid hJ
      clear hJ
      have f59 : ρ (.tmp 59) = .pointer (some ⟨C, 0, none⟩) := h4 10 59 (by kernel_rfl) (by kernel_rfl)
      have h0 := HJ.out.not (i := 11) (by decide) (by decide) hl
      have c : w'.cell? ⟨C, 0, none⟩ = some (.int .i64 (T)) := ((HJ.out.turn).blk HC.out HBC1.out).cell 0 rfl
      clear h0 h4 h5 hg
      unfold OpY
      go_simp
      first | exact ⟨rfl, HJ.out.put (i := 11) (by decide) (by decide) (by decide) hl⟩ | exact ⟨Or.inr rfl, HJ.out.put (i := 11) (by decide) (by decide) (by decide) hl⟩
    · refine ⟨(fun g b h => by cases h), fun l w' hl hdp hJ hg ρ h1 h2 h3 h4 h5 => ?_⟩
      have HJ := hid hJ
      clear hJ
      have f60 : ρ (.tmp 60) = .int .i64 (T) := h4 11 60 (by kernel_rfl) (by kernel_rfl)
      have h0 := HJ.out.not (i := 12) (by decide) (by decide) hl
      clear h0 h4 h5 hg
      unfold OpY
      go_simp
      first | exact ⟨rfl, HJ.out.put (i := 12) (by decide) (by decide) (by decide) hl⟩ | exact ⟨Or.inr rfl, HJ.out.put (i := 12) (by decide) (by decide) (by decide) hl⟩
    · refine ⟨(fun g b h => by cases h), fun l w' hl hdp hJ hg ρ h1 h2 h3 h4 h5 => ?_⟩
      have HJ := hid hJ
      clear hJ
      have f61 : ρ (.tmp 61) = .int .i64 (13 * T) := h4 12 61 (by kernel_rfl) (by kernel_rfl)
      have h0 := HJ.out.not (i := 13) (by decide) (by decide) hl
      clear h0 h4 h5 hg
      unfold OpY
      go_simp
      first | exact ⟨rfl, HJ.out.put (i := 13) (by decide) (by decide) (by decide) hl⟩ | exact ⟨Or.inr rfl, HJ.out.put (i := 13) (by decide) (by decide) (by decide) hl⟩
    · refine ⟨(fun g b h => by cases h), fun l w' hl hdp hJ hg ρ h1 h2 h3 h4 h5 => ?_⟩
      have HJ := hid hJ
      clear hJ
      have f52 : ρ (.tmp 52) = .func (.func n) #[] vn := h4 3 52 (by kernel_rfl) (by kernel_rfl)
      have f53 : ρ (.tmp 53) = .int .i64 (p + r) := h4 4 53 (by kernel_rfl) (by kernel_rfl)
      have f62 : ρ (.tmp 62) = .int .i64 (13 * T - 1) := h4 13 62 (by kernel_rfl) (by kernel_rfl)
      clear h4 h5 hg
      unfold OpY
      go_simp
      unfold OpR
      have h0 := HJ.out.pre hl
      subst h0
      refine (HN.out _ HA1.out).mono ?_
      rintro e' w'' ⟨rfl, ha', ht'⟩
      first | exact ⟨_, rfl, rfl, HJ.out.call (by decide) (by decide) hl ha' ht'⟩ | exact ⟨_, rfl, Or.inr rfl, HJ.out.call (by decide) (by decide) hl ha' ht'⟩
    · refine ⟨(fun g b h => by cases h), fun l w' hl hdp hJ hg ρ h1 h2 h3 h4 h5 => ?_⟩
      have HJ := hid hJ
      clear hJ
      have f63 : ρ (.tmp 63) = .int .i64 (y.1) := h4 14 63 (by kernel_rfl) (by kernel_rfl)
      have hall : ∀ q, q < 16 → q ≠ 15 → l q = true := all_last (by kernel_rfl) hdp
      have HALL := hid hall
      clear hall h4 h5 hg
      unfold OpY
      go_simp
      first | exact ⟨rfl, HJ.out.last (by decide) HALL.out⟩ | exact ⟨Or.inr rfl, HJ.out.last (by decide) HALL.out⟩
  case hdone =>
    intro W2 hJ
    have HF := hid (hJ.mid rfl)
    clear hJ
    have HBL2 := hid (HF.out.2.blk HL.out HBL1.out)
    have HBC2 := hid (HF.out.2.blk HC.out HBC1.out)
    have HT2 := hid (HT1.out.trans HF.out.2)
    have HA2 := hid HF.out.1
    clear HF HN HA1 HBL1 HBC1 HT1 m1 m2
    go_wp2_with fail
    apply wp_region_knownJ (fun qq => ([.pointer (some ⟨L, 0, none⟩), .pointer (some ⟨L, 0, none⟩), .int .i64 (y.1), .pointer (some ⟨L, 0, none⟩), .pointer (some ⟨L, 0, none⟩), .pointer (some ⟨L, 0, none⟩), .pointer (some ⟨C, 0, none⟩), .pointer (some ⟨C, 0, none⟩), .pointer (some ⟨C, 0, none⟩), .int .i64 (T), .int .i64 (kq), .int .i64 (kk), .int .u8 (kk), .int .i64 (y.1), .pointer (some ⟨L, 0, none⟩), .pointer (some ⟨L, 0, none⟩), .pointer (some ⟨L, 0, none⟩), .pointer (some ⟨C, 0, none⟩), .pointer (some ⟨C, 0, none⟩), .pointer (some ⟨C, 0, none⟩), .int .i64 (T), .int .i64 (rr), .pointer (some ⟨L, 0, none⟩), .pointer (some ⟨L, 0, none⟩), .pointer (some ⟨L, 0, none⟩), .pointer (some ⟨C, 0, none⟩), .pointer (some ⟨C, 0, none⟩), .pointer (some ⟨C, 3, none⟩), .int .i64 (c.last), .int .i64 (rr + c.last), .pointer (some ⟨L, 0, none⟩), .pointer (some ⟨L, 0, none⟩), .pointer (some ⟨L, 0, none⟩), .pointer (some ⟨C, 0, none⟩), .pointer (some ⟨C, 0, none⟩), .pointer (some ⟨C, 0, none⟩), .int .i64 (T), .int .i64 (t' : Int), .pointer (some ⟨L, 0, none⟩), .pointer (some ⟨L, 1, none⟩), .pointer (some ⟨L, 1, none⟩), undef, .pointer (some ⟨L, 0, none⟩), .pointer (some ⟨L, 1, none⟩), .pointer (some ⟨L, 2, none⟩), undef] : List Value).getD qq undef) (TwoSt W2.drew L 1 2 (.int .u8 (kk)) (.int .i64 (t' : Int)) 41 45)
    focus (simp [putAll, dstOf, Act.put, List.getD]; rfl)
    case hm => kernel_rfl
    case hd => kernel_rfl
    case hb => kernel_rfl
    case hng => kernel_rfl
    case hsz => kernel_rfl
    case hext => exact fun l l' w h H => H.ext (by decide) (by decide) h
    case h0 => exact TwoSt.start
    case hstep =>
      refine ⟨?_, ?_, ?_, ?_, ?_, ?_, ?_, ?_, ?_, ?_, ?_, ?_, ?_, ?_, ?_, ?_, ?_, ?_, ?_, ?_, ?_, ?_, ?_, ?_, ?_, ?_, ?_, ?_, ?_, ?_, ?_, ?_, ?_, ?_, ?_, ?_, ?_, ?_, ?_, ?_, ?_, ?_, ?_, ?_, ?_, ?_,  trivial⟩
      · refine ⟨(fun g b h => by cases h), fun l w' hl hdp hJ hg ρ h1 h2 h3 h4 h5 => ?_⟩
        have HJ := hid hJ
        clear hJ
        have f0 : ρ (.tmp 0) = .pointer (some ⟨L, 0, none⟩) := h5 0 (by kernel_rfl)
        clear h4 h5 hg
        unfold OpY
        go_simp
        first | exact ⟨rfl, HJ.out.other 0 (by decide) (by decide)⟩ | exact ⟨Or.inr rfl, HJ.out.other 0 (by decide) (by decide)⟩
      · refine ⟨(fun g b h => by cases h), fun l w' hl hdp hJ hg ρ h1 h2 h3 h4 h5 => ?_⟩
        have HJ := hid hJ
        clear hJ
        have f0 : ρ (.tmp 0) = .pointer (some ⟨L, 0, none⟩) := h5 0 (by kernel_rfl)
        clear h4 h5 hg
        unfold OpY
        go_simp
        first | exact ⟨rfl, HJ.out.other 1 (by decide) (by decide)⟩ | exact ⟨Or.inr rfl, HJ.out.other 1 (by decide) (by decide)⟩
      · refine ⟨(fun g b h => by cases h), fun l w' hl hdp hJ hg ρ h1 h2 h3 h4 h5 => ?_⟩
        have HJ := hid hJ
        clear hJ
        have f2 : ρ (.tmp 2) = .int .i64 (y.1) := h5 2 (by kernel_rfl)
        clear h4 h5 hg
        unfold OpY
        go_simp
        first | exact ⟨rfl, HJ.out.other 2 (by decide) (by decide)⟩ | exact ⟨Or.inr rfl, HJ.out.other 2 (by decide) (by decide)⟩
      · refine ⟨(fun g b h => by cases h), fun l w' hl hdp hJ hg ρ h1 h2 h3 h4 h5 => ?_⟩
        have HJ := hid hJ
        clear hJ
        have f0 : ρ (.tmp 0) = .pointer (some ⟨L, 0, none⟩) := h5 0 (by kernel_rfl)
        clear h4 h5 hg
        unfold OpY
        go_simp
        first | exact ⟨rfl, HJ.out.other 3 (by decide) (by decide)⟩ | exact ⟨Or.inr rfl, HJ.out.other 3 (by decide) (by decide)⟩
      · refine ⟨(fun g b h => by cases h), fun l w' hl hdp hJ hg ρ h1 h2 h3 h4 h5 => ?_⟩
        have HJ := hid hJ
        clear hJ
        have f67 : ρ (.tmp 67) = .pointer (some ⟨L, 0, none⟩) := h4 3 67 (by kernel_rfl) (by kernel_rfl)
        clear h4 h5 hg
        unfold OpY
        go_simp
        first | exact ⟨rfl, HJ.out.other 4 (by decide) (by decide)⟩ | exact ⟨Or.inr rfl, HJ.out.other 4 (by decide) (by decide)⟩
      · refine ⟨(fun g b h => by cases h), fun l w' hl hdp hJ hg ρ h1 h2 h3 h4 h5 => ?_⟩
        have HJ := hid hJ
        clear hJ
        have f68 : ρ (.tmp 68) = .pointer (some ⟨L, 0, none⟩) := h4 4 68 (by kernel_rfl) (by kernel_rfl)
        clear h4 h5 hg
        unfold OpY
        go_simp
        first | exact ⟨rfl, HJ.out.other 5 (by decide) (by decide)⟩ | exact ⟨Or.inr rfl, HJ.out.other 5 (by decide) (by decide)⟩
      · refine ⟨(fun g b h => by cases h), fun l w' hl hdp hJ hg ρ h1 h2 h3 h4 h5 => ?_⟩
        have HJ := hid hJ
        clear hJ
        have f69 : ρ (.tmp 69) = .pointer (some ⟨L, 0, none⟩) := h4 5 69 (by kernel_rfl) (by kernel_rfl)
        have c : w'.cell? ⟨L, 0, none⟩ = some (.pointer (some ⟨C, 0, none⟩)) := HJ.out.cellAt (HBL2.out.below (ext_drew (ext_refl _))) rfl (by decide) (by decide)
        clear h4 h5 hg
        unfold OpY
        go_simp
        first | exact ⟨rfl, HJ.out.other 6 (by decide) (by decide)⟩ | exact ⟨Or.inr rfl, HJ.out.other 6 (by decide) (by decide)⟩
      · refine ⟨(fun g b h => by cases h), fun l w' hl hdp hJ hg ρ h1 h2 h3 h4 h5 => ?_⟩
        have HJ := hid hJ
        clear hJ
        have f70 : ρ (.tmp 70) = .pointer (some ⟨C, 0, none⟩) := h4 6 70 (by kernel_rfl) (by kernel_rfl)
        clear h4 h5 hg
        unfold OpY
        go_simp
        first | exact ⟨rfl, HJ.out.other 7 (by decide) (by decide)⟩ | exact ⟨Or.inr rfl, HJ.out.other 7 (by decide) (by decide)⟩
      · refine ⟨(fun g b h => by cases h), fun l w' hl hdp hJ hg ρ h1 h2 h3 h4 h5 => ?_⟩
        have HJ := hid hJ
        clear hJ
        have f71 : ρ (.tmp 71) = .pointer (some ⟨C, 0, none⟩) := h4 7 71 (by kernel_rfl) (by kernel_rfl)
        clear h4 h5 hg
        unfold OpY
        go_simp
        first | exact ⟨rfl, HJ.out.other 8 (by decide) (by decide)⟩ | exact ⟨Or.inr rfl, HJ.out.other 8 (by decide) (by decide)⟩
      · refine ⟨(fun g b h => by cases h), fun l w' hl hdp hJ hg ρ h1 h2 h3 h4 h5 => ?_⟩
        have HJ := hid hJ
        clear hJ
        have f72 : ρ (.tmp 72) = .pointer (some ⟨C, 0, none⟩) := h4 8 72 (by kernel_rfl) (by kernel_rfl)
        have c : w'.cell? ⟨C, 0, none⟩ = some (.int .i64 (T)) := (HJ.out.far (HBC2.out.below (ext_drew (ext_refl _))) HLC.out).cell 0 rfl
        clear h4 h5 hg
        unfold OpY
        go_simp
        first | exact ⟨rfl, HJ.out.other 9 (by decide) (by decide)⟩ | exact ⟨Or.inr rfl, HJ.out.other 9 (by decide) (by decide)⟩
      · refine ⟨(fun g b h => by cases h), fun l w' hl hdp hJ hg ρ h1 h2 h3 h4 h5 => ?_⟩
        have HJ := hid hJ
        clear hJ
        have f66 : ρ (.tmp 66) = .int .i64 (y.1) := h4 2 66 (by kernel_rfl) (by kernel_rfl)
        have f73 : ρ (.tmp 73) = .int .i64 (T) := h4 9 73 (by kernel_rfl) (by kernel_rfl)
        clear h4 h5 hg
        unfold OpY
        go_simp
        first | exact ⟨rfl, HJ.out.other 10 (by decide) (by decide)⟩ | exact ⟨Or.inr rfl, HJ.out.other 10 (by decide) (by decide)⟩
      · refine ⟨(fun g b h => by cases h), fun l w' hl hdp hJ hg ρ h1 h2 h3 h4 h5 => ?_⟩
        have HJ := hid hJ
        clear hJ
        have f74 : ρ (.tmp 74) = .int .i64 (kq) := h4 10 74 (by kernel_rfl) (by kernel_rfl)
        clear h4 h5 hg
        unfold OpY
        go_simp
        first | exact ⟨rfl, HJ.out.other 11 (by decide) (by decide)⟩ | exact ⟨Or.inr rfl, HJ.out.other 11 (by decide) (by decide)⟩
      · refine ⟨(fun g b h => by cases h), fun l w' hl hdp hJ hg ρ h1 h2 h3 h4 h5 => ?_⟩
        have HJ := hid hJ
        clear hJ
        have f75 : ρ (.tmp 75) = .int .i64 (kk) := h4 11 75 (by kernel_rfl) (by kernel_rfl)
        clear h4 h5 hg
        unfold OpY
        go_simp
        first | exact ⟨rfl, HJ.out.other 12 (by decide) (by decide)⟩ | exact ⟨Or.inr rfl, HJ.out.other 12 (by decide) (by decide)⟩
      · refine ⟨(fun g b h => by cases h), fun l w' hl hdp hJ hg ρ h1 h2 h3 h4 h5 => ?_⟩
        have HJ := hid hJ
        clear hJ
        have f2 : ρ (.tmp 2) = .int .i64 (y.1) := h5 2 (by kernel_rfl)
        clear h4 h5 hg
        unfold OpY
        go_simp
        first | exact ⟨rfl, HJ.out.other 13 (by decide) (by decide)⟩ | exact ⟨Or.inr rfl, HJ.out.other 13 (by decide) (by decide)⟩
      · refine ⟨(fun g b h => by cases h), fun l w' hl hdp hJ hg ρ h1 h2 h3 h4 h5 => ?_⟩
        have HJ := hid hJ
        clear hJ
        have f0 : ρ (.tmp 0) = .pointer (some ⟨L, 0, none⟩) := h5 0 (by kernel_rfl)
        clear h4 h5 hg
        unfold OpY
        go_simp
        first | exact ⟨rfl, HJ.out.other 14 (by decide) (by decide)⟩ | exact ⟨Or.inr rfl, HJ.out.other 14 (by decide) (by decide)⟩
      · refine ⟨(fun g b h => by cases h), fun l w' hl hdp hJ hg ρ h1 h2 h3 h4 h5 => ?_⟩
        have HJ := hid hJ
        clear hJ
        have f78 : ρ (.tmp 78) = .pointer (some ⟨L, 0, none⟩) := h4 14 78 (by kernel_rfl) (by kernel_rfl)
        clear h4 h5 hg
        unfold OpY
        go_simp
        first | exact ⟨rfl, HJ.out.other 15 (by decide) (by decide)⟩ | exact ⟨Or.inr rfl, HJ.out.other 15 (by decide) (by decide)⟩
      · refine ⟨(fun g b h => by cases h), fun l w' hl hdp hJ hg ρ h1 h2 h3 h4 h5 => ?_⟩
        have HJ := hid hJ
        clear hJ
        have f79 : ρ (.tmp 79) = .pointer (some ⟨L, 0, none⟩) := h4 15 79 (by kernel_rfl) (by kernel_rfl)
        clear h4 h5 hg
        unfold OpY
        go_simp
        first | exact ⟨rfl, HJ.out.other 16 (by decide) (by decide)⟩ | exact ⟨Or.inr rfl, HJ.out.other 16 (by decide) (by decide)⟩
      · refine ⟨(fun g b h => by cases h), fun l w' hl hdp hJ hg ρ h1 h2 h3 h4 h5 => ?_⟩
        have HJ := hid hJ
        clear hJ
        have f80 : ρ (.tmp 80) = .pointer (some ⟨L, 0, none⟩) := h4 16 80 (by kernel_rfl) (by kernel_rfl)
        have c : w'.cell? ⟨L, 0, none⟩ = some (.pointer (some ⟨C, 0, none⟩)) := HJ.out.cellAt (HBL2.out.below (ext_drew (ext_refl _))) rfl (by decide) (by decide)
        clear h4 h5 hg
        unfold OpY
        go_simp
        first | exact ⟨rfl, HJ.out.other 17 (by decide) (by decide)⟩ | exact ⟨Or.inr rfl, HJ.out.other 17 (by decide) (by decide)⟩
      · refine ⟨(fun g b h => by cases h), fun l w' hl hdp hJ hg ρ h1 h2 h3 h4 h5 => ?_⟩
        have HJ := hid hJ
        clear hJ
        have f81 : ρ (.tmp 81) = .pointer (some ⟨C, 0, none⟩) := h4 17 81 (by kernel_rfl) (by kernel_rfl)
        clear h4 h5 hg
        unfold OpY
        go_simp
        first | exact ⟨rfl, HJ.out.other 18 (by decide) (by decide)⟩ | exact ⟨Or.inr rfl, HJ.out.other 18 (by decide) (by decide)⟩
      · refine ⟨(fun g b h => by cases h), fun l w' hl hdp hJ hg ρ h1 h2 h3 h4 h5 => ?_⟩
        have HJ := hid hJ
        clear hJ
        have f82 : ρ (.tmp 82) = .pointer (some ⟨C, 0, none⟩) := h4 18 82 (by kernel_rfl) (by kernel_rfl)
        clear h4 h5 hg
        unfold OpY
        go_simp
        first | exact ⟨rfl, HJ.out.other 19 (by decide) (by decide)⟩ | exact ⟨Or.inr rfl, HJ.out.other 19 (by decide) (by decide)⟩
      · refine ⟨(fun g b h => by cases h), fun l w' hl hdp hJ hg ρ h1 h2 h3 h4 h5 => ?_⟩
        have HJ := hid hJ
        clear hJ
        have f83 : ρ (.tmp 83) = .pointer (some ⟨C, 0, none⟩) := h4 19 83 (by kernel_rfl) (by kernel_rfl)
        have c : w'.cell? ⟨C, 0, none⟩ = some (.int .i64 (T)) := (HJ.out.far (HBC2.out.below (ext_drew (ext_refl _))) HLC.out).cell 0 rfl
        clear h4 h5 hg
        unfold OpY
        go_simp
        first | exact ⟨rfl, HJ.out.other 20 (by decide) (by decide)⟩ | exact ⟨Or.inr rfl, HJ.out.other 20 (by decide) (by decide)⟩
      · refine ⟨(fun g b h => by cases h), fun l w' hl hdp hJ hg ρ h1 h2 h3 h4 h5 => ?_⟩
        have HJ := hid hJ
        clear hJ
        have f77 : ρ (.tmp 77) = .int .i64 (y.1) := h4 13 77 (by kernel_rfl) (by kernel_rfl)
        have f84 : ρ (.tmp 84) = .int .i64 (T) := h4 20 84 (by kernel_rfl) (by kernel_rfl)
        clear h4 h5 hg
        unfold OpY
        go_simp
        first | exact ⟨rfl, HJ.out.other 21 (by decide) (by decide)⟩ | exact ⟨Or.inr rfl, HJ.out.other 21 (by decide) (by decide)⟩
      · refine ⟨(fun g b h => by cases h), fun l w' hl hdp hJ hg ρ h1 h2 h3 h4 h5 => ?_⟩
        have HJ := hid hJ
        clear hJ
        have f0 : ρ (.tmp 0) = .pointer (some ⟨L, 0, none⟩) := h5 0 (by kernel_rfl)
        clear h4 h5 hg
        unfold OpY
        go_simp
        first | exact ⟨rfl, HJ.out.other 22 (by decide) (by decide)⟩ | exact ⟨Or.inr rfl, HJ.out.other 22 (by decide) (by decide)⟩
      · refine ⟨(fun g b h => by cases h), fun l w' hl hdp hJ hg ρ h1 h2 h3 h4 h5 => ?_⟩
        have HJ := hid hJ
        clear hJ
        have f86 : ρ (.tmp 86) = .pointer (some ⟨L, 0, none⟩) := h4 22 86 (by kernel_rfl) (by kernel_rfl)
        clear h4 h5 hg
        unfold OpY
        go_simp
        first | exact ⟨rfl, HJ.out.other 23 (by decide) (by decide)⟩ | exact ⟨Or.inr rfl, HJ.out.other 23 (by decide) (by decide)⟩
      · refine ⟨(fun g b h => by cases h), fun l w' hl hdp hJ hg ρ h1 h2 h3 h4 h5 => ?_⟩
        have HJ := hid hJ
        clear hJ
        have f87 : ρ (.tmp 87) = .pointer (some ⟨L, 0, none⟩) := h4 23 87 (by kernel_rfl) (by kernel_rfl)
        clear h4 h5 hg
        unfold OpY
        go_simp
        first | exact ⟨rfl, HJ.out.other 24 (by decide) (by decide)⟩ | exact ⟨Or.inr rfl, HJ.out.other 24 (by decide) (by decide)⟩
      · refine ⟨(fun g b h => by cases h), fun l w' hl hdp hJ hg ρ h1 h2 h3 h4 h5 => ?_⟩
        have HJ := hid hJ
        clear hJ
        have f88 : ρ (.tmp 88) = .pointer (some ⟨L, 0, none⟩) := h4 24 88 (by kernel_rfl) (by kernel_rfl)
        have c : w'.cell? ⟨L, 0, none⟩ = some (.pointer (some ⟨C, 0, none⟩)) := HJ.out.cellAt (HBL2.out.below (ext_drew (ext_refl _))) rfl (by decide) (by decide)
        clear h4 h5 hg
        unfold OpY
        go_simp
        first | exact ⟨rfl, HJ.out.other 25 (by decide) (by decide)⟩ | exact ⟨Or.inr rfl, HJ.out.other 25 (by decide) (by decide)⟩
      · refine ⟨(fun g b h => by cases h), fun l w' hl hdp hJ hg ρ h1 h2 h3 h4 h5 => ?_⟩
        have HJ := hid hJ
        clear hJ
        have f89 : ρ (.tmp 89) = .pointer (some ⟨C, 0, none⟩) := h4 25 89 (by kernel_rfl) (by kernel_rfl)
        clear h4 h5 hg
        unfold OpY
        go_simp
        first | exact ⟨rfl, HJ.out.other 26 (by decide) (by decide)⟩ | exact ⟨Or.inr rfl, HJ.out.other 26 (by decide) (by decide)⟩
      · refine ⟨(fun g b h => by cases h), fun l w' hl hdp hJ hg ρ h1 h2 h3 h4 h5 => ?_⟩
        have HJ := hid hJ
        clear hJ
        have f90 : ρ (.tmp 90) = .pointer (some ⟨C, 0, none⟩) := h4 26 90 (by kernel_rfl) (by kernel_rfl)
        clear h4 h5 hg
        unfold OpY
        go_simp
        first | exact ⟨rfl, HJ.out.other 27 (by decide) (by decide)⟩ | exact ⟨Or.inr rfl, HJ.out.other 27 (by decide) (by decide)⟩
      · refine ⟨(fun g b h => by cases h), fun l w' hl hdp hJ hg ρ h1 h2 h3 h4 h5 => ?_⟩
        have HJ := hid hJ
        clear hJ
        have f91 : ρ (.tmp 91) = .pointer (some ⟨C, 3, none⟩) := h4 27 91 (by kernel_rfl) (by kernel_rfl)
        have c : w'.cell? ⟨C, 3, none⟩ = some (.int .i64 (c.last)) := (HJ.out.far (HBC2.out.below (ext_drew (ext_refl _))) HLC.out).cell 3 rfl
        clear h4 h5 hg
        unfold OpY
        go_simp
        first | exact ⟨rfl, HJ.out.other 28 (by decide) (by decide)⟩ | exact ⟨Or.inr rfl, HJ.out.other 28 (by decide) (by decide)⟩
      · refine ⟨(fun g b h => by cases h), fun l w' hl hdp hJ hg ρ h1 h2 h3 h4 h5 => ?_⟩
        have HJ := hid hJ
        clear hJ
        have f85 : ρ (.tmp 85) = .int .i64 (rr) := h4 21 85 (by kernel_rfl) (by kernel_rfl)
        have f92 : ρ (.tmp 92) = .int .i64 (c.last) := h4 28 92 (by kernel_rfl) (by kernel_rfl)
        clear h4 h5 hg
        unfold OpY
        go_simp
        first | exact ⟨rfl, HJ.out.other 29 (by decide) (by decide)⟩ | exact ⟨Or.inr rfl, HJ.out.other 29 (by decide) (by decide)⟩
      · refine ⟨(fun g b h => by cases h), fun l w' hl hdp hJ hg ρ h1 h2 h3 h4 h5 => ?_⟩
        have HJ := hid hJ
        clear hJ
        have f0 : ρ (.tmp 0) = .pointer (some ⟨L, 0, none⟩) := h5 0 (by kernel_rfl)
        clear h4 h5 hg
        unfold OpY
        go_simp
        first | exact ⟨rfl, HJ.out.other 30 (by decide) (by decide)⟩ | exact ⟨Or.inr rfl, HJ.out.other 30 (by decide) (by decide)⟩
      · refine ⟨(fun g b h => by cases h), fun l w' hl hdp hJ hg ρ h1 h2 h3 h4 h5 => ?_⟩
        have HJ := hid hJ
        clear hJ
        have f94 : ρ (.tmp 94) = .pointer (some ⟨L, 0, none⟩) := h4 30 94 (by kernel_rfl) (by kernel_rfl)
        clear h4 h5 hg
        unfold OpY
        go_simp
        first | exact ⟨rfl, HJ.out.other 31 (by decide) (by decide)⟩ | exact ⟨Or.inr rfl, HJ.out.other 31 (by decide) (by decide)⟩
      · refine ⟨(fun g b h => by cases h), fun l w' hl hdp hJ hg ρ h1 h2 h3 h4 h5 => ?_⟩
        have HJ := hid hJ
        clear hJ
        have f95 : ρ (.tmp 95) = .pointer (some ⟨L, 0, none⟩) := h4 31 95 (by kernel_rfl) (by kernel_rfl)
        clear h4 h5 hg
        unfold OpY
        go_simp
        first | exact ⟨rfl, HJ.out.other 32 (by decide) (by decide)⟩ | exact ⟨Or.inr rfl, HJ.out.other 32 (by decide) (by decide)⟩
      · refine ⟨(fun g b h => by cases h), fun l w' hl hdp hJ hg ρ h1 h2 h3 h4 h5 => ?_⟩
        have HJ := hid hJ
        clear hJ
        have f96 : ρ (.tmp 96) = .pointer (some ⟨L, 0, none⟩) := h4 32 96 (by kernel_rfl) (by kernel_rfl)
        have c : w'.cell? ⟨L, 0, none⟩ = some (.pointer (some ⟨C, 0, none⟩)) := HJ.out.cellAt (HBL2.out.below (ext_drew (ext_refl _))) rfl (by decide) (by decide)
        clear h4 h5 hg
        unfold OpY
        go_simp
        first | exact ⟨rfl, HJ.out.other 33 (by decide) (by decide)⟩ | exact ⟨Or.inr rfl, HJ.out.other 33 (by decide) (by decide)⟩
      · refine ⟨(fun g b h => by cases h), fun l w' hl hdp hJ hg ρ h1 h2 h3 h4 h5 => ?_⟩
        have HJ := hid hJ
        clear hJ
        have f97 : ρ (.tmp 97) = .pointer (some ⟨C, 0, none⟩) := h4 33 97 (by kernel_rfl) (by kernel_rfl)
        clear h4 h5 hg
        unfold OpY
        go_simp
        first | exact ⟨rfl, HJ.out.other 34 (by decide) (by decide)⟩ | exact ⟨Or.inr rfl, HJ.out.other 34 (by decide) (by decide)⟩
      · refine ⟨(fun g b h => by cases h), fun l w' hl hdp hJ hg ρ h1 h2 h3 h4 h5 => ?_⟩
        have HJ := hid hJ
        clear hJ
        have f98 : ρ (.tmp 98) = .pointer (some ⟨C, 0, none⟩) := h4 34 98 (by kernel_rfl) (by kernel_rfl)
        clear h4 h5 hg
        unfold OpY
        go_simp
        first | exact ⟨rfl, HJ.out.other 35 (by decide) (by decide)⟩ | exact ⟨Or.inr rfl, HJ.out.other 35 (by decide) (by decide)⟩
      · refine ⟨(fun g b h => by cases h), fun l w' hl hdp hJ hg ρ h1 h2 h3 h4 h5 => ?_⟩
        have HJ := hid hJ
        clear hJ
        have f99 : ρ (.tmp 99) = .pointer (some ⟨C, 0, none⟩) := h4 35 99 (by kernel_rfl) (by kernel_rfl)
        have c : w'.cell? ⟨C, 0, none⟩ = some (.int .i64 (T)) := (HJ.out.far (HBC2.out.below (ext_drew (ext_refl _))) HLC.out).cell 0 rfl
        clear h4 h5 hg
        unfold OpY
        go_simp
        first | exact ⟨rfl, HJ.out.other 36 (by decide) (by decide)⟩ | exact ⟨Or.inr rfl, HJ.out.other 36 (by decide) (by decide)⟩
      · refine ⟨(fun g b h => by cases h), fun l w' hl hdp hJ hg ρ h1 h2 h3 h4 h5 => ?_⟩
        have HJ := hid hJ
        clear hJ
        have f93 : ρ (.tmp 93) = .int .i64 (rr + c.last) := h4 29 93 (by kernel_rfl) (by kernel_rfl)
        have f100 : ρ (.tmp 100) = .int .i64 (T) := h4 36 100 (by kernel_rfl) (by kernel_rfl)
        clear h4 h5 hg
        unfold OpY
        go_simp
        first | exact ⟨rfl, HJ.out.other 37 (by decide) (by decide)⟩ | exact ⟨Or.inr rfl, HJ.out.other 37 (by decide) (by decide)⟩
      · refine ⟨(fun g b h => by cases h), fun l w' hl hdp hJ hg ρ h1 h2 h3 h4 h5 => ?_⟩
        have HJ := hid hJ
        clear hJ
        have f64 : ρ (.tmp 64) = .pointer (some ⟨L, 0, none⟩) := h4 0 64 (by kernel_rfl) (by kernel_rfl)
        clear h4 h5 hg
        unfold OpY
        go_simp
        first | exact ⟨rfl, HJ.out.other 38 (by decide) (by decide)⟩ | exact ⟨Or.inr rfl, HJ.out.other 38 (by decide) (by decide)⟩
      · refine ⟨(fun g b h => by cases h), fun l w' hl hdp hJ hg ρ h1 h2 h3 h4 h5 => ?_⟩
        have HJ := hid hJ
        clear hJ
        have f102 : ρ (.tmp 102) = .pointer (some ⟨L, 0, none⟩) := h4 38 102 (by kernel_rfl) (by kernel_rfl)
        clear h4 h5 hg
        unfold OpY
        go_simp
        first | exact ⟨rfl, HJ.out.other 39 (by decide) (by decide)⟩ | exact ⟨Or.inr rfl, HJ.out.other 39 (by decide) (by decide)⟩
      · refine ⟨(fun g b h => by cases h), fun l w' hl hdp hJ hg ρ h1 h2 h3 h4 h5 => ?_⟩
        have HJ := hid hJ
        clear hJ
        have f103 : ρ (.tmp 103) = .pointer (some ⟨L, 1, none⟩) := h4 39 103 (by kernel_rfl) (by kernel_rfl)
        clear h4 h5 hg
        unfold OpY
        go_simp
        first | exact ⟨rfl, HJ.out.other 40 (by decide) (by decide)⟩ | exact ⟨Or.inr rfl, HJ.out.other 40 (by decide) (by decide)⟩
      · refine ⟨(fun g b h => by cases h), fun l w' hl hdp hJ hg ρ h1 h2 h3 h4 h5 => ?_⟩
        have HJ := hid hJ
        clear hJ
        have f104 : ρ (.tmp 104) = .pointer (some ⟨L, 1, none⟩) := h4 40 104 (by kernel_rfl) (by kernel_rfl)
        have f76 : ρ (.tmp 76) = .int .u8 (kk) := h4 12 76 (by kernel_rfl) (by kernel_rfl)
        obtain ⟨hw, hq⟩ := HJ.out.first (by decide) hl
        subst hw
        have HQ := hid hq
        have cc := (HBL2.out.below (ext_drew (ext_refl _))).cell 1 (v := .int .u8 (kind)) rfl
        have zz := (HBL2.out.below (ext_drew (ext_refl _))).free 1
        clear hq
        clear h4 h5 hg
        unfold OpY
        go_simp
        exact HQ.out
      · refine ⟨(fun g b h => by cases h), fun l w' hl hdp hJ hg ρ h1 h2 h3 h4 h5 => ?_⟩
        have HJ := hid hJ
        clear hJ
        have f65 : ρ (.tmp 65) = .pointer (some ⟨L, 0, none⟩) := h4 1 65 (by kernel_rfl) (by kernel_rfl)
        clear h4 h5 hg
        unfold OpY
        go_simp
        first | exact ⟨rfl, HJ.out.other 42 (by decide) (by decide)⟩ | exact ⟨Or.inr rfl, HJ.out.other 42 (by decide) (by decide)⟩
      · refine ⟨(fun g b h => by cases h), fun l w' hl hdp hJ hg ρ h1 h2 h3 h4 h5 => ?_⟩
        have HJ := hid hJ
        clear hJ
        have f105 : ρ (.tmp 105) = .pointer (some ⟨L, 0, none⟩) := h4 42 105 (by kernel_rfl) (by kernel_rfl)
        clear h4 h5 hg
        unfold OpY
        go_simp
        first | exact ⟨rfl, HJ.out.other 43 (by decide) (by decide)⟩ | exact ⟨Or.inr rfl, HJ.out.other 43 (by decide) (by decide)⟩
      · refine ⟨(fun g b h => by cases h), fun l w' hl hdp hJ hg ρ h1 h2 h3 h4 h5 => ?_⟩
        have HJ := hid hJ
        clear hJ
        have f106 : ρ (.tmp 106) = .pointer (some ⟨L, 1, none⟩) := h4 43 106 (by kernel_rfl) (by kernel_rfl)
        clear h4 h5 hg
        unfold OpY
        go_simp
        first | exact ⟨rfl, HJ.out.other 44 (by decide) (by decide)⟩ | exact ⟨Or.inr rfl, HJ.out.other 44 (by decide) (by decide)⟩
      · refine ⟨(fun g b h => by cases h), fun l w' hl hdp hJ hg ρ h1 h2 h3 h4 h5 => ?_⟩
        have HJ := hid hJ
        clear hJ
        have f107 : ρ (.tmp 107) = .pointer (some ⟨L, 2, none⟩) := h4 44 107 (by kernel_rfl) (by kernel_rfl)
        have f101 : ρ (.tmp 101) = .int .i64 (t' : Int) := h4 37 101 (by kernel_rfl) (by kernel_rfl)
        obtain ⟨hw, hq⟩ := HJ.out.second (by decide) (hdp 41 (by kernel_rfl)) hl
        subst hw
        have HQ := hid hq
        have cc := ((HBL2.out.below (ext_drew (ext_refl _))).set 1 (.int .u8 (kk))).cell 2 (v := .int .i64 (th : Int)) rfl
        have zz := ((HBL2.out.below (ext_drew (ext_refl _))).set 1 (.int .u8 (kk))).free 2
        have cc2 := HBL2.out.cell 2 (v := .int .i64 (th : Int)) rfl
        have zz2 := HBL2.out.free 2
        clear hq
        clear h4 h5 hg
        unfold OpY
        go_simp
        exact HQ.out
    case hdone =>
      intro W3 hJ
      have hw := hJ.done
      clear hJ
      have hb3 := ((HBL2.out.below (ext_drew (ext_refl _))).set 1 (.int .u8 (kk))).set 2 (.int .i64 (t' : Int))
      have hb3' : Blk W3 L (lineA C ⟨kk, (t' : Int), tx, at_, v, x, why⟩ (clo n vn) (clo i vi) (clo b vb)) 83 := by rw [hw]; exact hb3
      have hc3 : Blk W3 C (cdrA T V S c) 74 := by rw [hw]; exact ((HBC2.out.below (ext_drew (ext_refl _))).set_other _ _ HLC.out).set_other _ _ HLC.out
      have ha3 : At y.2 W3 := by rw [hw]; exact HK.out.keep _ _ _ HA2.out (fun k hk => by rw [Below.heap_setCell _ _ _ _ (fun e => HL.out (by have e' : k = L := e; rw [← e']; exact hk)), Below.heap_setCell _ _ _ _ (fun e => HL.out (by have e' : k = L := e; rw [← e']; exact hk))]; rfl)
      have ht3 : Turn (L :: ks) W W3 := by rw [hw]; exact ((((HT2.out.drew).mono (fun q hq => List.mem_cons_of_mem L hq)).setCell (p := ⟨L, 1, none⟩) (Or.inl (by simp)) _).setCell (p := ⟨L, 2, none⟩) (Or.inl (by simp)) _)
      have HB3 := hid hb3'
      have HC3 := hid hc3
      have HA3 := hid ha3
      have HT3 := hid ht3
      clear hb3 hb3' hc3 ha3 ht3 hw HBL2 HBC2 HT2 HA2 hq1 hq2 hq3 hq4 r1 r2 r3 r4 r5
      clear hen hei heb
      have d1 := HB3.out.cell 1 (v := .int .u8 kk) rfl
      have bz := Blk.new W3 #[.nilFunc, .nilFunc, .nilFunc, .nilFunc, .nilFunc, .nilFunc, .nilFunc, .nilFunc, .nilFunc, .nilFunc, .nilFunc, .nilFunc, .nilFunc, .nilFunc] 108
      have HTH := hid (there_blk (n := 14) bz rfl)
      have HI1 : Hid ((Tryd.prog.info? 108).map (·.size) = some (#[.nilFunc, .func (.func 56) #[] #[], .func (.func 57) #[] #[], .func (.func 58) #[] #[], .func (.func 59) #[] #[], .func (.func 60) #[] #[], .func (.func 59) #[] #[], .func (.func 61) #[] #[], .func (.func 58) #[] #[], .func (.func 59) #[] #[], .func (.func 62) #[] #[], .func (.func 59) #[] #[], .func (.func 63) #[] #[], .func (.func 63) #[] #[]] : Array Value).size) := hid (by kernel_rfl)
      have HI2 : Hid ((#[.nilFunc, .func (.func 56) #[] #[], .func (.func 57) #[] #[], .func (.func 58) #[] #[], .func (.func 59) #[] #[], .func (.func 60) #[] #[], .func (.func 59) #[] #[], .func (.func 61) #[] #[], .func (.func 58) #[] #[], .func (.func 59) #[] #[], .func (.func 62) #[] #[], .func (.func 59) #[] #[], .func (.func 63) #[] #[], .func (.func 63) #[] #[]] : Array Value).all (·.oneCell') = true) := hid (by kernel_rfl)
      have hk13 : kk = 1 ∨ kk = 2 ∨ kk = 3 ∨ kk = 4 ∨ kk = 5 ∨ kk = 6 ∨ kk = 7 ∨ kk = 8 ∨ kk = 9 ∨ kk = 10 ∨ kk = 11 ∨ kk = 12 ∨ kk = 13 := by have := HKR.out; omega
      rcases hk13 with rfl | rfl | rfl | rfl | rfl | rfl | rfl | rfl | rfl | rfl | rfl | rfl | rfl
      · -- kind 1
        go_wp2_with (refine wpList_store_mid rfl 108 (.tmp 3) (.tmp 108) rfl W3.heap.size 0 #[.nilFunc, .func (.func 56) #[] #[], .func (.func 57) #[] #[], .func (.func 58) #[] #[], .func (.func 59) #[] #[], .func (.func 60) #[] #[], .func (.func 59) #[] #[], .func (.func 61) #[] #[], .func (.func 58) #[] #[], .func (.func 59) #[] #[], .func (.func 62) #[] #[], .func (.func 59) #[] #[], .func (.func 63) #[] #[], .func (.func 63) #[] #[]] rfl rfl HTH.out HI1.out HI2.out ?_; have hcell := overT_cells bz; unfold overT at hcell; have hbz : Below W3.heap.size W3 ((W3.alloc (.cells #[.nilFunc, .nilFunc, .nilFunc, .nilFunc, .nilFunc, .nilFunc, .nilFunc, .nilFunc, .nilFunc, .nilFunc, .nilFunc, .nilFunc, .nilFunc, .nilFunc] 108)).setCells W3.heap.size 0 (#[.nilFunc, .func (.func 56) #[] #[], .func (.func 57) #[] #[], .func (.func 58) #[] #[], .func (.func 59) #[] #[], .func (.func 60) #[] #[], .func (.func 59) #[] #[], .func (.func 61) #[] #[], .func (.func 58) #[] #[], .func (.func 59) #[] #[], .func (.func 62) #[] #[], .func (.func 59) #[] #[], .func (.func 63) #[] #[], .func (.func 63) #[] #[]] : Array Value).toList) := (ext_alloc (ext_refl W3) _).trans (setCells_below (B := W3.heap.size) (Nat.le_refl _) _ 0 _); generalize hW : (W3.alloc (.cells #[.nilFunc, .nilFunc, .nilFunc, .nilFunc, .nilFunc, .nilFunc, .nilFunc, .nilFunc, .nilFunc, .nilFunc, .nilFunc, .nilFunc, .nilFunc, .nilFunc] 108)).setCells W3.heap.size 0 (#[.nilFunc, .func (.func 56) #[] #[], .func (.func 57) #[] #[], .func (.func 58) #[] #[], .func (.func 59) #[] #[], .func (.func 60) #[] #[], .func (.func 59) #[] #[], .func (.func 61) #[] #[], .func (.func 58) #[] #[], .func (.func 59) #[] #[], .func (.func 62) #[] #[], .func (.func 59) #[] #[], .func (.func 63) #[] #[], .func (.func 63) #[] #[]] : Array Value).toList = W4 at *; have HBZ := hid hbz; have q1 := later hbz d1; have qf := hcell 1 (.func (.func 56) #[] #[]) rfl; clear hW hbz bz hcell d1 HTH HI1 HI2)
        have hk4 : ∀ k ∈ ks, W4.heap[k]? = W3.heap[k]? := fun k hk => HBZ.out.block k (HKS.out k hk W3 HT3.out.size)
        have HB4 := hid (HB3.out.below HBZ.out)
        have HC4 := hid (HC3.out.below HBZ.out)
        have HA4 := hid (HK.out.keep _ W3 W4 HA3.out hk4)
        have HT4 := hid (HT3.out.trans (Turn.of_below HBZ.out))
        clear hk4
        have hX : Calls Tryd.prog 56 #[.pointer (some ⟨L, 0, none⟩)] W4 (LineP ks At n i b vn vi vb L C W4 (lineK K V S c ⟨1, (t' : Int), tx, at_, v, x, why⟩ y.2)) := by
          have hz := begin_any HK.out T V S c 1 tx at_ v x why t' y.2 L C W4 HB4.out HC4.out HA4.out HL.out HC.out HLC.out HO2.out (HM.out.k1 rfl).1 (HM.out.k1 rfl).2 HM.out.v0 HM.out.cl
          exact hz
        have HX1 := hid hX
        clear hX
        refine HX1.out.mono ?_
        rintro e' W5 ⟨rfl, hx1, hx2, hx3⟩
        have HX := hid (And.intro hx1 (And.intro hx2 hx3))
        clear hx1 hx2 hx3
        go_wp2_with fail
        go_end0
        exact ⟨rfl, HX.out.1, HT4.out.trans HX.out.2.1, HX.out.2.2⟩
      · -- kind 2
        go_wp2_with (refine wpList_store_mid rfl 108 (.tmp 3) (.tmp 108) rfl W3.heap.size 0 #[.nilFunc, .func (.func 56) #[] #[], .func (.func 57) #[] #[], .func (.func 58) #[] #[], .func (.func 59) #[] #[], .func (.func 60) #[] #[], .func (.func 59) #[] #[], .func (.func 61) #[] #[], .func (.func 58) #[] #[], .func (.func 59) #[] #[], .func (.func 62) #[] #[], .func (.func 59) #[] #[], .func (.func 63) #[] #[], .func (.func 63) #[] #[]] rfl rfl HTH.out HI1.out HI2.out ?_; have hcell := overT_cells bz; unfold overT at hcell; have hbz : Below W3.heap.size W3 ((W3.alloc (.cells #[.nilFunc, .nilFunc, .nilFunc, .nilFunc, .nilFunc, .nilFunc, .nilFunc, .nilFunc, .nilFunc, .nilFunc, .nilFunc, .nilFunc, .nilFunc, .nilFunc] 108)).setCells W3.heap.size 0 (#[.nilFunc, .func (.func 56) #[] #[], .func (.func 57) #[] #[], .func (.func 58) #[] #[], .func (.func 59) #[] #[], .func (.func 60) #[] #[], .func (.func 59) #[] #[], .func (.func 61) #[] #[], .func (.func 58) #[] #[], .func (.func 59) #[] #[], .func (.func 62) #[] #[], .func (.func 59) #[] #[], .func (.func 63) #[] #[], .func (.func 63) #[] #[]] : Array Value).toList) := (ext_alloc (ext_refl W3) _).trans (setCells_below (B := W3.heap.size) (Nat.le_refl _) _ 0 _); generalize hW : (W3.alloc (.cells #[.nilFunc, .nilFunc, .nilFunc, .nilFunc, .nilFunc, .nilFunc, .nilFunc, .nilFunc, .nilFunc, .nilFunc, .nilFunc, .nilFunc, .nilFunc, .nilFunc] 108)).setCells W3.heap.size 0 (#[.nilFunc, .func (.func 56) #[] #[], .func (.func 57) #[] #[], .func (.func 58) #[] #[], .func (.func 59) #[] #[], .func (.func 60) #[] #[], .func (.func 59) #[] #[], .func (.func 61) #[] #[], .func (.func 58) #[] #[], .func (.func 59) #[] #[], .func (.func 62) #[] #[], .func (.func 59) #[] #[], .func (.func 63) #[] #[], .func (.func 63) #[] #[]] : Array Value).toList = W4 at *; have HBZ := hid hbz; have q1 := later hbz d1; have qf := hcell 2 (.func (.func 57) #[] #[]) rfl; clear hW hbz bz hcell d1 HTH HI1 HI2)
        have hk4 : ∀ k ∈ ks, W4.heap[k]? = W3.heap[k]? := fun k hk => HBZ.out.block k (HKS.out k hk W3 HT3.out.size)
        have HB4 := hid (HB3.out.below HBZ.out)
        have HC4 := hid (HC3.out.below HBZ.out)
        have HA4 := hid (HK.out.keep _ W3 W4 HA3.out hk4)
        have HT4 := hid (HT3.out.trans (Turn.of_below HBZ.out))
        clear hk4
        have hX : Calls Tryd.prog 57 #[.pointer (some ⟨L, 0, none⟩)] W4 (LineP ks At n i b vn vi vb L C W4 (lineK K V S c ⟨2, (t' : Int), tx, at_, v, x, why⟩ y.2)) := by
          have hz := look_any HK.out T V S c 2 tx at_ v x why t' y.2 L C W4 HB4.out HC4.out HA4.out HL.out HC.out HLC.out HO2.out (HM.out.k2 rfl).1 HSS.out HTP.out (HM.out.k2 rfl).2 HM.out.v0 HM.out.bg
          exact hz
        have HX1 := hid hX
        clear hX
        refine HX1.out.mono ?_
        rintro e' W5 ⟨rfl, hx1, hx2, hx3⟩
        have HX := hid (And.intro hx1 (And.intro hx2 hx3))
        clear hx1 hx2 hx3
        go_wp2_with fail
        go_end0
        exact ⟨rfl, HX.out.1, HT4.out.trans HX.out.2.1, HX.out.2.2⟩
      · -- kind 3
        go_wp2_with (refine wpList_store_mid rfl 108 (.tmp 3) (.tmp 108) rfl W3.heap.size 0 #[.nilFunc, .func (.func 56) #[] #[], .func (.func 57) #[] #[], .func (.func 58) #[] #[], .func (.func 59) #[] #[], .func (.func 60) #[] #[], .func (.func 59) #[] #[], .func (.func 61) #[] #[], .func (.func 58) #[] #[], .func (.func 59) #[] #[], .func (.func 62) #[] #[], .func (.func 59) #[] #[], .func (.func 63) #[] #[], .func (.func 63) #[] #[]] rfl rfl HTH.out HI1.out HI2.out ?_; have hcell := overT_cells bz; unfold overT at hcell; have hbz : Below W3.heap.size W3 ((W3.alloc (.cells #[.nilFunc, .nilFunc, .nilFunc, .nilFunc, .nilFunc, .nilFunc, .nilFunc, .nilFunc, .nilFunc, .nilFunc, .nilFunc, .nilFunc, .nilFunc, .nilFunc] 108)).setCells W3.heap.size 0 (#[.nilFunc, .func (.func 56) #[] #[], .func (.func 57) #[] #[], .func (.func 58) #[] #[], .func (.func 59) #[] #[], .func (.func 60) #[] #[], .func (.func 59) #[] #[], .func (.func 61) #[] #[], .func (.func 58) #[] #[], .func (.func 59) #[] #[], .func (.func 62) #[] #[], .func (.func 59) #[] #[], .func (.func 63) #[] #[], .func (.func 63) #[] #[]] : Array Value).toList) := (ext_alloc (ext_refl W3) _).trans (setCells_below (B := W3.heap.size) (Nat.le_refl _) _ 0 _); generalize hW : (W3.alloc (.cells #[.nilFunc, .nilFunc, .nilFunc, .nilFunc, .nilFunc, .nilFunc, .nilFunc, .nilFunc, .nilFunc, .nilFunc, .nilFunc, .nilFunc, .nilFunc, .nilFunc] 108)).setCells W3.heap.size 0 (#[.nilFunc, .func (.func 56) #[] #[], .func (.func 57) #[] #[], .func (.func 58) #[] #[], .func (.func 59) #[] #[], .func (.func 60) #[] #[], .func (.func 59) #[] #[], .func (.func 61) #[] #[], .func (.func 58) #[] #[], .func (.func 59) #[] #[], .func (.func 62) #[] #[], .func (.func 59) #[] #[], .func (.func 63) #[] #[], .func (.func 63) #[] #[]] : Array Value).toList = W4 at *; have HBZ := hid hbz; have q1 := later hbz d1; have qf := hcell 3 (.func (.func 58) #[] #[]) rfl; clear hW hbz bz hcell d1 HTH HI1 HI2)
        have hk4 : ∀ k ∈ ks, W4.heap[k]? = W3.heap[k]? := fun k hk => HBZ.out.block k (HKS.out k hk W3 HT3.out.size)
        have HB4 := hid (HB3.out.below HBZ.out)
        have HC4 := hid (HC3.out.below HBZ.out)
        have HA4 := hid (HK.out.keep _ W3 W4 HA3.out hk4)
        have HT4 := hid (HT3.out.trans (Turn.of_below HBZ.out))
        clear hk4
        obtain ⟨q, hq, hq32⟩ := (HM.out.k3 (by decide)).2
        have hX : Calls Tryd.prog 58 #[.pointer (some ⟨L, 0, none⟩)] W4 (LineP ks At n i b vn vi vb L C W4 (lineK K V S c ⟨3, (t' : Int), tx, at_, v, x, why⟩ y.2)) := by
          have hz := value_any HK.out T V S c 3 tx at_ v x why t' q y.2 L C W4 HB4.out HC4.out HA4.out HL.out HC.out HLC.out HO2.out (HM.out.k3 (by decide)).1 HVV.out hq hq32
          refine hz.mono fun e' W' h => ?_
          have e : lineK K V S c ⟨3, (t' : Int), tx, at_, v, x, why⟩ y.2 = (let y' := K.num y.2 at_ (V - 1); let z := K.int y'.2 (w64 (x - c.x y'.1)); (⟨3, (t' : Int), tx, y'.1, v, w64 (c.x y'.1 + z.1), why⟩, z.2)) := rfl
          rw [e]; dsimp only; rw [hq]; exact h
        have HX1 := hid hX
        clear hX
        refine HX1.out.mono ?_
        rintro e' W5 ⟨rfl, hx1, hx2, hx3⟩
        have HX := hid (And.intro hx1 (And.intro hx2 hx3))
        clear hx1 hx2 hx3
        go_wp2_with fail
        go_end0
        exact ⟨rfl, HX.out.1, HT4.out.trans HX.out.2.1, HX.out.2.2⟩
      · -- kind 4
        go_wp2_with (refine wpList_store_mid rfl 108 (.tmp 3) (.tmp 108) rfl W3.heap.size 0 #[.nilFunc, .func (.func 56) #[] #[], .func (.func 57) #[] #[], .func (.func 58) #[] #[], .func (.func 59) #[] #[], .func (.func 60) #[] #[], .func (.func 59) #[] #[], .func (.func 61) #[] #[], .func (.func 58) #[] #[], .func (.func 59) #[] #[], .func (.func 62) #[] #[], .func (.func 59) #[] #[], .func (.func 63) #[] #[], .func (.func 63) #[] #[]] rfl rfl HTH.out HI1.out HI2.out ?_; have hcell := overT_cells bz; unfold overT at hcell; have hbz : Below W3.heap.size W3 ((W3.alloc (.cells #[.nilFunc, .nilFunc, .nilFunc, .nilFunc, .nilFunc, .nilFunc, .nilFunc, .nilFunc, .nilFunc, .nilFunc, .nilFunc, .nilFunc, .nilFunc, .nilFunc] 108)).setCells W3.heap.size 0 (#[.nilFunc, .func (.func 56) #[] #[], .func (.func 57) #[] #[], .func (.func 58) #[] #[], .func (.func 59) #[] #[], .func (.func 60) #[] #[], .func (.func 59) #[] #[], .func (.func 61) #[] #[], .func (.func 58) #[] #[], .func (.func 59) #[] #[], .func (.func 62) #[] #[], .func (.func 59) #[] #[], .func (.func 63) #[] #[], .func (.func 63) #[] #[]] : Array Value).toList) := (ext_alloc (ext_refl W3) _).trans (setCells_below (B := W3.heap.size) (Nat.le_refl _) _ 0 _); generalize hW : (W3.alloc (.cells #[.nilFunc, .nilFunc, .nilFunc, .nilFunc, .nilFunc, .nilFunc, .nilFunc, .nilFunc, .nilFunc, .nilFunc, .nilFunc, .nilFunc, .nilFunc, .nilFunc] 108)).setCells W3.heap.size 0 (#[.nilFunc, .func (.func 56) #[] #[], .func (.func 57) #[] #[], .func (.func 58) #[] #[], .func (.func 59) #[] #[], .func (.func 60) #[] #[], .func (.func 59) #[] #[], .func (.func 61) #[] #[], .func (.func 58) #[] #[], .func (.func 59) #[] #[], .func (.func 62) #[] #[], .func (.func 59) #[] #[], .func (.func 63) #[] #[], .func (.func 63) #[] #[]] : Array Value).toList = W4 at *; have HBZ := hid hbz; have q1 := later hbz d1; have qf := hcell 4 (.func (.func 59) #[] #[]) rfl; clear hW hbz bz hcell d1 HTH HI1 HI2)
        have hk4 : ∀ k ∈ ks, W4.heap[k]? = W3.heap[k]? := fun k hk => HBZ.out.block k (HKS.out k hk W3 HT3.out.size)
        have HB4 := hid (HB3.out.below HBZ.out)
        have HC4 := hid (HC3.out.below HBZ.out)
        have HA4 := hid (HK.out.keep _ W3 W4 HA3.out hk4)
        have HT4 := hid (HT3.out.trans (Turn.of_below HBZ.out))
        clear hk4
        have hX : Calls Tryd.prog 59 #[.pointer (some ⟨L, 0, none⟩)] W4 (LineP ks At n i b vn vi vb L C W4 (lineK K V S c ⟨4, (t' : Int), tx, at_, v, x, why⟩ y.2)) := by
          have hz := stripe_any HK.out T V S c 4 tx at_ v x why t' y.2 L C W4 HB4.out HC4.out HA4.out HL.out HC.out HLC.out HO1.out (HM.out.k4 (by decide)) HSS.out
          exact hz
        have HX1 := hid hX
        clear hX
        refine HX1.out.mono ?_
        rintro e' W5 ⟨rfl, hx1, hx2, hx3⟩
        have HX := hid (And.intro hx1 (And.intro hx2 hx3))
        clear hx1 hx2 hx3
        go_wp2_with fail
        go_end0
        exact ⟨rfl, HX.out.1, HT4.out.trans HX.out.2.1, HX.out.2.2⟩
      · -- kind 5
        go_wp2_with (refine wpList_store_mid rfl 108 (.tmp 3) (.tmp 108) rfl W3.heap.size 0 #[.nilFunc, .func (.func 56) #[] #[], .func (.func 57) #[] #[], .func (.func 58) #[] #[], .func (.func 59) #[] #[], .func (.func 60) #[] #[], .func (.func 59) #[] #[], .func (.func 61) #[] #[], .func (.func 58) #[] #[], .func (.func 59) #[] #[], .func (.func 62) #[] #[], .func (.func 59) #[] #[], .func (.func 63) #[] #[], .func (.func 63) #[] #[]] rfl rfl HTH.out HI1.out HI2.out ?_; have hcell := overT_cells bz; unfold overT at hcell; have hbz : Below W3.heap.size W3 ((W3.alloc (.cells #[.nilFunc, .nilFunc, .nilFunc, .nilFunc, .nilFunc, .nilFunc, .nilFunc, .nilFunc, .nilFunc, .nilFunc, .nilFunc, .nilFunc, .nilFunc, .nilFunc] 108)).setCells W3.heap.size 0 (#[.nilFunc, .func (.func 56) #[] #[], .func (.func 57) #[] #[], .func (.func 58) #[] #[], .func (.func 59) #[] #[], .func (.func 60) #[] #[], .func (.func 59) #[] #[], .func (.func 61) #[] #[], .func (.func 58) #[] #[], .func (.func 59) #[] #[], .func (.func 62) #[] #[], .func (.func 59) #[] #[], .func (.func 63) #[] #[], .func (.func 63) #[] #[]] : Array Value).toList) := (ext_alloc (ext_refl W3) _).trans (setCells_below (B := W3.heap.size) (Nat.le_refl _) _ 0 _); generalize hW : (W3.alloc (.cells #[.nilFunc, .nilFunc, .nilFunc, .nilFunc, .nilFunc, .nilFunc, .nilFunc, .nilFunc, .nilFunc, .nilFunc, .nilFunc, .nilFunc, .nilFunc, .nilFunc] 108)).setCells W3.heap.size 0 (#[.nilFunc, .func (.func 56) #[] #[], .func (.func 57) #[] #[], .func (.func 58) #[] #[], .func (.func 59) #[] #[], .func (.func 60) #[] #[], .func (.func 59) #[] #[], .func (.func 61) #[] #[], .func (.func 58) #[] #[], .func (.func 59) #[] #[], .func (.func 62) #[] #[], .func (.func 59) #[] #[], .func (.func 63) #[] #[], .func (.func 63) #[] #[]] : Array Value).toList = W4 at *; have HBZ := hid hbz; have q1 := later hbz d1; have qf := hcell 5 (.func (.func 60) #[] #[]) rfl; clear hW hbz bz hcell d1 HTH HI1 HI2)
        have hk4 : ∀ k ∈ ks, W4.heap[k]? = W3.heap[k]? := fun k hk => HBZ.out.block k (HKS.out k hk W3 HT3.out.size)
        have HB4 := hid (HB3.out.below HBZ.out)
        have HC4 := hid (HC3.out.below HBZ.out)
        have HA4 := hid (HK.out.keep _ W3 W4 HA3.out hk4)
        have HT4 := hid (HT3.out.trans (Turn.of_below HBZ.out))
        clear hk4
        have hX : Calls Tryd.prog 60 #[.pointer (some ⟨L, 0, none⟩)] W4 (LineP ks At n i b vn vi vb L C W4 (lineK K V S c ⟨5, (t' : Int), tx, at_, v, x, why⟩ y.2)) := by
          have hz := bump_any HK.out T V S c 5 tx at_ v x why t' y.2 L C W4 HB4.out HC4.out HA4.out HL.out HC.out HLC.out HO1.out (HM.out.k5 rfl) HM.out.v0 HM.out.cl
          exact hz
        have HX1 := hid hX
        clear hX
        refine HX1.out.mono ?_
        rintro e' W5 ⟨rfl, hx1, hx2, hx3⟩
        have HX := hid (And.intro hx1 (And.intro hx2 hx3))
        clear hx1 hx2 hx3
        go_wp2_with fail
        go_end0
        exact ⟨rfl, HX.out.1, HT4.out.trans HX.out.2.1, HX.out.2.2⟩
      · -- kind 6
        go_wp2_with (refine wpList_store_mid rfl 108 (.tmp 3) (.tmp 108) rfl W3.heap.size 0 #[.nilFunc, .func (.func 56) #[] #[], .func (.func 57) #[] #[], .func (.func 58) #[] #[], .func (.func 59) #[] #[], .func (.func 60) #[] #[], .func (.func 59) #[] #[], .func (.func 61) #[] #[], .func (.func 58) #[] #[], .func (.func 59) #[] #[], .func (.func 62) #[] #[], .func (.func 59) #[] #[], .func (.func 63) #[] #[], .func (.func 63) #[] #[]] rfl rfl HTH.out HI1.out HI2.out ?_; have hcell := overT_cells bz; unfold overT at hcell; have hbz : Below W3.heap.size W3 ((W3.alloc (.cells #[.nilFunc, .nilFunc, .nilFunc, .nilFunc, .nilFunc, .nilFunc, .nilFunc, .nilFunc, .nilFunc, .nilFunc, .nilFunc, .nilFunc, .nilFunc, .nilFunc] 108)).setCells W3.heap.size 0 (#[.nilFunc, .func (.func 56) #[] #[], .func (.func 57) #[] #[], .func (.func 58) #[] #[], .func (.func 59) #[] #[], .func (.func 60) #[] #[], .func (.func 59) #[] #[], .func (.func 61) #[] #[], .func (.func 58) #[] #[], .func (.func 59) #[] #[], .func (.func 62) #[] #[], .func (.func 59) #[] #[], .func (.func 63) #[] #[], .func (.func 63) #[] #[]] : Array Value).toList) := (ext_alloc (ext_refl W3) _).trans (setCells_below (B := W3.heap.size) (Nat.le_refl _) _ 0 _); generalize hW : (W3.alloc (.cells #[.nilFunc, .nilFunc, .nilFunc, .nilFunc, .nilFunc, .nilFunc, .nilFunc, .nilFunc, .nilFunc, .nilFunc, .nilFunc, .nilFunc, .nilFunc, .nilFunc] 108)).setCells W3.heap.size 0 (#[.nilFunc, .func (.func 56) #[] #[], .func (.func 57) #[] #[], .func (.func 58) #[] #[], .func (.func 59) #[] #[], .func (.func 60) #[] #[], .func (.func 59) #[] #[], .func (.func 61) #[] #[], .func (.func 58) #[] #[], .func (.func 59) #[] #[], .func (.func 62) #[] #[], .func (.func 59) #[] #[], .func (.func 63) #[] #[], .func (.func 63) #[] #[]] : Array Value).toList = W4 at *; have HBZ := hid hbz; have q1 := later hbz d1; have qf := hcell 6 (.func (.func 59) #[] #[]) rfl; clear hW hbz bz hcell d1 HTH HI1 HI2)
        have hk4 : ∀ k ∈ ks, W4.heap[k]? = W3.heap[k]? := fun k hk => HBZ.out.block k (HKS.out k hk W3 HT3.out.size)
        have HB4 := hid (HB3.out.below HBZ.out)
        have HC4 := hid (HC3.out.below HBZ.out)
        have HA4 := hid (HK.out.keep _ W3 W4 HA3.out hk4)
        have HT4 := hid (HT3.out.trans (Turn.of_below HBZ.out))
        clear hk4
        have hX : Calls Tryd.prog 59 #[.pointer (some ⟨L, 0, none⟩)] W4 (LineP ks At n i b vn vi vb L C W4 (lineK K V S c ⟨6, (t' : Int), tx, at_, v, x, why⟩ y.2)) := by
          have hz := stripe_any HK.out T V S c 6 tx at_ v x why t' y.2 L C W4 HB4.out HC4.out HA4.out HL.out HC.out HLC.out HO1.out (HM.out.k4 (by decide)) HSS.out
          exact hz
        have HX1 := hid hX
        clear hX
        refine HX1.out.mono ?_
        rintro e' W5 ⟨rfl, hx1, hx2, hx3⟩
        have HX := hid (And.intro hx1 (And.intro hx2 hx3))
        clear hx1 hx2 hx3
        go_wp2_with fail
        go_end0
        exact ⟨rfl, HX.out.1, HT4.out.trans HX.out.2.1, HX.out.2.2⟩
      · -- kind 7
        go_wp2_with (refine wpList_store_mid rfl 108 (.tmp 3) (.tmp 108) rfl W3.heap.size 0 #[.nilFunc, .func (.func 56) #[] #[], .func (.func 57) #[] #[], .func (.func 58) #[] #[], .func (.func 59) #[] #[], .func (.func 60) #[] #[], .func (.func 59) #[] #[], .func (.func 61) #[] #[], .func (.func 58) #[] #[], .func (.func 59) #[] #[], .func (.func 62) #[] #[], .func (.func 59) #[] #[], .func (.func 63) #[] #[], .func (.func 63) #[] #[]] rfl rfl HTH.out HI1.out HI2.out ?_; have hcell := overT_cells bz; unfold overT at hcell; have hbz : Below W3.heap.size W3 ((W3.alloc (.cells #[.nilFunc, .nilFunc, .nilFunc, .nilFunc, .nilFunc, .nilFunc, .nilFunc, .nilFunc, .nilFunc, .nilFunc, .nilFunc, .nilFunc, .nilFunc, .nilFunc] 108)).setCells W3.heap.size 0 (#[.nilFunc, .func (.func 56) #[] #[], .func (.func 57) #[] #[], .func (.func 58) #[] #[], .func (.func 59) #[] #[], .func (.func 60) #[] #[], .func (.func 59) #[] #[], .func (.func 61) #[] #[], .func (.func 58) #[] #[], .func (.func 59) #[] #[], .func (.func 62) #[] #[], .func (.func 59) #[] #[], .func (.func 63) #[] #[], .func (.func 63) #[] #[]] : Array Value).toList) := (ext_alloc (ext_refl W3) _).trans (setCells_below (B := W3.heap.size) (Nat.le_refl _) _ 0 _); generalize hW : (W3.alloc (.cells #[.nilFunc, .nilFunc, .nilFunc, .nilFunc, .nilFunc, .nilFunc, .nilFunc, .nilFunc, .nilFunc, .nilFunc, .nilFunc, .nilFunc, .nilFunc, .nilFunc] 108)).setCells W3.heap.size 0 (#[.nilFunc, .func (.func 56) #[] #[], .func (.func 57) #[] #[], .func (.func 58) #[] #[], .func (.func 59) #[] #[], .func (.func 60) #[] #[], .func (.func 59) #[] #[], .func (.func 61) #[] #[], .func (.func 58) #[] #[], .func (.func 59) #[] #[], .func (.func 62) #[] #[], .func (.func 59) #[] #[], .func (.func 63) #[] #[], .func (.func 63) #[] #[]] : Array Value).toList = W4 at *; have HBZ := hid hbz; have q1 := later hbz d1; have qf := hcell 7 (.func (.func 61) #[] #[]) rfl; clear hW hbz bz hcell d1 HTH HI1 HI2)
        have hk4 : ∀ k ∈ ks, W4.heap[k]? = W3.heap[k]? := fun k hk => HBZ.out.block k (HKS.out k hk W3 HT3.out.size)
        have HB4 := hid (HB3.out.below HBZ.out)
        have HC4 := hid (HC3.out.below HBZ.out)
        have HA4 := hid (HK.out.keep _ W3 W4 HA3.out hk4)
        have HT4 := hid (HT3.out.trans (Turn.of_below HBZ.out))
        clear hk4
        have hX : Calls Tryd.prog 61 #[.pointer (some ⟨L, 0, none⟩)] W4 (LineP ks At n i b vn vi vb L C W4 (lineK K V S c ⟨7, (t' : Int), tx, at_, v, x, why⟩ y.2)) := by
          have hv0 := HM.out.v0
          have hp := HM.out.k7 rfl
          by_cases h0 : v = 0
          · subst h0; exact commit_any0 HK.out T V S c 7 tx at_ x why t' y.2 L C W4 HB4.out HC4.out HA4.out HL.out HC.out HLC.out HO1.out hp HTP.out
          by_cases h1 : v = 1
          · subst h1; exact commit_any1 HK.out T V S c 7 tx at_ x why t' y.2 L C W4 HB4.out HC4.out HA4.out HL.out HC.out HLC.out HO1.out hp HTP.out
          have hmn : min v 1 = 1 := by omega
          have hz := commit_any2 HK.out T V S c 7 tx at_ v x why t' y.2 L C W4 HB4.out HC4.out HA4.out HL.out HC.out HLC.out HO1.out (by omega) (by rw [hmn] at hp; exact hp) HTP.out
          refine hz.mono fun e' W' h => ?_
          have e : lineK K V S c ⟨7, (t' : Int), tx, at_, v, x, why⟩ y.2 = (let y' := K.num y.2 (min v 1) 1; if y'.1 = 0 then (⟨7, (t' : Int), tx, at_, 0, x, why⟩, y'.2) else (⟨7, (t' : Int), tx, at_, c.bumped t', x, why⟩, if c.bumped t' = 0 then K.bad y'.2 else y'.2)) := rfl
          rw [e]; dsimp only; rw [hmn]; exact h
        have HX1 := hid hX
        clear hX
        refine HX1.out.mono ?_
        rintro e' W5 ⟨rfl, hx1, hx2, hx3⟩
        have HX := hid (And.intro hx1 (And.intro hx2 hx3))
        clear hx1 hx2 hx3
        go_wp2_with fail
        go_end0
        exact ⟨rfl, HX.out.1, HT4.out.trans HX.out.2.1, HX.out.2.2⟩
      · -- kind 8
        go_wp2_with (refine wpList_store_mid rfl 108 (.tmp 3) (.tmp 108) rfl W3.heap.size 0 #[.nilFunc, .func (.func 56) #[] #[], .func (.func 57) #[] #[], .func (.func 58) #[] #[], .func (.func 59) #[] #[], .func (.func 60) #[] #[], .func (.func 59) #[] #[], .func (.func 61) #[] #[], .func (.func 58) #[] #[], .func (.func 59) #[] #[], .func (.func 62) #[] #[], .func (.func 59) #[] #[], .func (.func 63) #[] #[], .func (.func 63) #[] #[]] rfl rfl HTH.out HI1.out HI2.out ?_; have hcell := overT_cells bz; unfold overT at hcell; have hbz : Below W3.heap.size W3 ((W3.alloc (.cells #[.nilFunc, .nilFunc, .nilFunc, .nilFunc, .nilFunc, .nilFunc, .nilFunc, .nilFunc, .nilFunc, .nilFunc, .nilFunc, .nilFunc, .nilFunc, .nilFunc] 108)).setCells W3.heap.size 0 (#[.nilFunc, .func (.func 56) #[] #[], .func (.func 57) #[] #[], .func (.func 58) #[] #[], .func (.func 59) #[] #[], .func (.func 60) #[] #[], .func (.func 59) #[] #[], .func (.func 61) #[] #[], .func (.func 58) #[] #[], .func (.func 59) #[] #[], .func (.func 62) #[] #[], .func (.func 59) #[] #[], .func (.func 63) #[] #[], .func (.func 63) #[] #[]] : Array Value).toList) := (ext_alloc (ext_refl W3) _).trans (setCells_below (B := W3.heap.size) (Nat.le_refl _) _ 0 _); generalize hW : (W3.alloc (.cells #[.nilFunc, .nilFunc, .nilFunc, .nilFunc, .nilFunc, .nilFunc, .nilFunc, .nilFunc, .nilFunc, .nilFunc, .nilFunc, .nilFunc, .nilFunc, .nilFunc] 108)).setCells W3.heap.size 0 (#[.nilFunc, .func (.func 56) #[] #[], .func (.func 57) #[] #[], .func (.func 58) #[] #[], .func (.func 59) #[] #[], .func (.func 60) #[] #[], .func (.func 59) #[] #[], .func (.func 61) #[] #[], .func (.func 58) #[] #[], .func (.func 59) #[] #[], .func (.func 62) #[] #[], .func (.func 59) #[] #[], .func (.func 63) #[] #[], .func (.func 63) #[] #[]] : Array Value).toList = W4 at *; have HBZ := hid hbz; have q1 := later hbz d1; have qf := hcell 8 (.func (.func 58) #[] #[]) rfl; clear hW hbz bz hcell d1 HTH HI1 HI2)
        have hk4 : ∀ k ∈ ks, W4.heap[k]? = W3.heap[k]? := fun k hk => HBZ.out.block k (HKS.out k hk W3 HT3.out.size)
        have HB4 := hid (HB3.out.below HBZ.out)
        have HC4 := hid (HC3.out.below HBZ.out)
        have HA4 := hid (HK.out.keep _ W3 W4 HA3.out hk4)
        have HT4 := hid (HT3.out.trans (Turn.of_below HBZ.out))
        clear hk4
        obtain ⟨q, hq, hq32⟩ := (HM.out.k3 (by decide)).2
        have hX : Calls Tryd.prog 58 #[.pointer (some ⟨L, 0, none⟩)] W4 (LineP ks At n i b vn vi vb L C W4 (lineK K V S c ⟨8, (t' : Int), tx, at_, v, x, why⟩ y.2)) := by
          have hz := value_any HK.out T V S c 8 tx at_ v x why t' q y.2 L C W4 HB4.out HC4.out HA4.out HL.out HC.out HLC.out HO2.out (HM.out.k3 (by decide)).1 HVV.out hq hq32
          refine hz.mono fun e' W' h => ?_
          have e : lineK K V S c ⟨8, (t' : Int), tx, at_, v, x, why⟩ y.2 = (let y' := K.num y.2 at_ (V - 1); let z := K.int y'.2 (w64 (x - c.x y'.1)); (⟨8, (t' : Int), tx, y'.1, v, w64 (c.x y'.1 + z.1), why⟩, z.2)) := rfl
          rw [e]; dsimp only; rw [hq]; exact h
        have HX1 := hid hX
        clear hX
        refine HX1.out.mono ?_
        rintro e' W5 ⟨rfl, hx1, hx2, hx3⟩
        have HX := hid (And.intro hx1 (And.intro hx2 hx3))
        clear hx1 hx2 hx3
        go_wp2_with fail
        go_end0
        exact ⟨rfl, HX.out.1, HT4.out.trans HX.out.2.1, HX.out.2.2⟩
      · -- kind 9
        go_wp2_with (refine wpList_store_mid rfl 108 (.tmp 3) (.tmp 108) rfl W3.heap.size 0 #[.nilFunc, .func (.func 56) #[] #[], .func (.func 57) #[] #[], .func (.func 58) #[] #[], .func (.func 59) #[] #[], .func (.func 60) #[] #[], .func (.func 59) #[] #[], .func (.func 61) #[] #[], .func (.func 58) #[] #[], .func (.func 59) #[] #[], .func (.func 62) #[] #[], .func (.func 59) #[] #[], .func (.func 63) #[] #[], .func (.func 63) #[] #[]] rfl rfl HTH.out HI1.out HI2.out ?_; have hcell := overT_cells bz; unfold overT at hcell; have hbz : Below W3.heap.size W3 ((W3.alloc (.cells #[.nilFunc, .nilFunc, .nilFunc, .nilFunc, .nilFunc, .nilFunc, .nilFunc, .nilFunc, .nilFunc, .nilFunc, .nilFunc, .nilFunc, .nilFunc, .nilFunc] 108)).setCells W3.heap.size 0 (#[.nilFunc, .func (.func 56) #[] #[], .func (.func 57) #[] #[], .func (.func 58) #[] #[], .func (.func 59) #[] #[], .func (.func 60) #[] #[], .func (.func 59) #[] #[], .func (.func 61) #[] #[], .func (.func 58) #[] #[], .func (.func 59) #[] #[], .func (.func 62) #[] #[], .func (.func 59) #[] #[], .func (.func 63) #[] #[], .func (.func 63) #[] #[]] : Array Value).toList) := (ext_alloc (ext_refl W3) _).trans (setCells_below (B := W3.heap.size) (Nat.le_refl _) _ 0 _); generalize hW : (W3.alloc (.cells #[.nilFunc, .nilFunc, .nilFunc, .nilFunc, .nilFunc, .nilFunc, .nilFunc, .nilFunc, .nilFunc, .nilFunc, .nilFunc, .nilFunc, .nilFunc, .nilFunc] 108)).setCells W3.heap.size 0 (#[.nilFunc, .func (.func 56) #[] #[], .func (.func 57) #[] #[], .func (.func 58) #[] #[], .func (.func 59) #[] #[], .func (.func 60) #[] #[], .func (.func 59) #[] #[], .func (.func 61) #[] #[], .func (.func 58) #[] #[], .func (.func 59) #[] #[], .func (.func 62) #[] #[], .func (.func 59) #[] #[], .func (.func 63) #[] #[], .func (.func 63) #[] #[]] : Array Value).toList = W4 at *; have HBZ := hid hbz; have q1 := later hbz d1; have qf := hcell 9 (.func (.func 59) #[] #[]) rfl; clear hW hbz bz hcell d1 HTH HI1 HI2)
        have hk4 : ∀ k ∈ ks, W4.heap[k]? = W3.heap[k]? := fun k hk => HBZ.out.block k (HKS.out k hk W3 HT3.out.size)
        have HB4 := hid (HB3.out.below HBZ.out)
        have HC4 := hid (HC3.out.below HBZ.out)
        have HA4 := hid (HK.out.keep _ W3 W4 HA3.out hk4)
        have HT4 := hid (HT3.out.trans (Turn.of_below HBZ.out))
        clear hk4
        have hX : Calls Tryd.prog 59 #[.pointer (some ⟨L, 0, none⟩)] W4 (LineP ks At n i b vn vi vb L C W4 (lineK K V S c ⟨9, (t' : Int), tx, at_, v, x, why⟩ y.2)) := by
          have hz := stripe_any HK.out T V S c 9 tx at_ v x why t' y.2 L C W4 HB4.out HC4.out HA4.out HL.out HC.out HLC.out HO1.out (HM.out.k4 (by decide)) HSS.out
          exact hz
        have HX1 := hid hX
        clear hX
        refine HX1.out.mono ?_
        rintro e' W5 ⟨rfl, hx1, hx2, hx3⟩
        have HX := hid (And.intro hx1 (And.intro hx2 hx3))
        clear hx1 hx2 hx3
        go_wp2_with fail
        go_end0
        exact ⟨rfl, HX.out.1, HT4.out.trans HX.out.2.1, HX.out.2.2⟩
      · -- kind 10
        go_wp2_with (refine wpList_store_mid rfl 108 (.tmp 3) (.tmp 108) rfl W3.heap.size 0 #[.nilFunc, .func (.func 56) #[] #[], .func (.func 57) #[] #[], .func (.func 58) #[] #[], .func (.func 59) #[] #[], .func (.func 60) #[] #[], .func (.func 59) #[] #[], .func (.func 61) #[] #[], .func (.func 58) #[] #[], .func (.func 59) #[] #[], .func (.func 62) #[] #[], .func (.func 59) #[] #[], .func (.func 63) #[] #[], .func (.func 63) #[] #[]] rfl rfl HTH.out HI1.out HI2.out ?_; have hcell := overT_cells bz; unfold overT at hcell; have hbz : Below W3.heap.size W3 ((W3.alloc (.cells #[.nilFunc, .nilFunc, .nilFunc, .nilFunc, .nilFunc, .nilFunc, .nilFunc, .nilFunc, .nilFunc, .nilFunc, .nilFunc, .nilFunc, .nilFunc, .nilFunc] 108)).setCells W3.heap.size 0 (#[.nilFunc, .func (.func 56) #[] #[], .func (.func 57) #[] #[], .func (.func 58) #[] #[], .func (.func 59) #[] #[], .func (.func 60) #[] #[], .func (.func 59) #[] #[], .func (.func 61) #[] #[], .func (.func 58) #[] #[], .func (.func 59) #[] #[], .func (.func 62) #[] #[], .func (.func 59) #[] #[], .func (.func 63) #[] #[], .func (.func 63) #[] #[]] : Array Value).toList) := (ext_alloc (ext_refl W3) _).trans (setCells_below (B := W3.heap.size) (Nat.le_refl _) _ 0 _); generalize hW : (W3.alloc (.cells #[.nilFunc, .nilFunc, .nilFunc, .nilFunc, .nilFunc, .nilFunc, .nilFunc, .nilFunc, .nilFunc, .nilFunc, .nilFunc, .nilFunc, .nilFunc, .nilFunc] 108)).setCells W3.heap.size 0 (#[.nilFunc, .func (.func 56) #[] #[], .func (.func 57) #[] #[], .func (.func 58) #[] #[], .func (.func 59) #[] #[], .func (.func 60) #[] #[], .func (.func 59) #[] #[], .func (.func 61) #[] #[], .func (.func 58) #[] #[], .func (.func 59) #[] #[], .func (.func 62) #[] #[], .func (.func 59) #[] #[], .func (.func 63) #[] #[], .func (.func 63) #[] #[]] : Array Value).toList = W4 at *; have HBZ := hid hbz; have q1 := later hbz d1; have qf := hcell 10 (.func (.func 62) #[] #[]) rfl; clear hW hbz bz hcell d1 HTH HI1 HI2)
        have hk4 : ∀ k ∈ ks, W4.heap[k]? = W3.heap[k]? := fun k hk => HBZ.out.block k (HKS.out k hk W3 HT3.out.size)
        have HB4 := hid (HB3.out.below HBZ.out)
        have HC4 := hid (HC3.out.below HBZ.out)
        have HA4 := hid (HK.out.keep _ W3 W4 HA3.out hk4)
        have HT4 := hid (HT3.out.trans (Turn.of_below HBZ.out))
        clear hk4
        have hX : Calls Tryd.prog 62 #[.pointer (some ⟨L, 0, none⟩)] W4 (LineP ks At n i b vn vi vb L C W4 (lineK K V S c ⟨10, (t' : Int), tx, at_, v, x, why⟩ y.2)) := by
          have hz := abort_any HK.out T V S c 10 tx at_ v x why t' y.2 L C W4 HB4.out HC4.out HA4.out HL.out HC.out HLC.out HO2.out (HM.out.k10 rfl).2.1 HSS.out (HM.out.k10 rfl).1 HM.out.wy (HM.out.k10 rfl).2.2
          exact hz
        have HX1 := hid hX
        clear hX
        refine HX1.out.mono ?_
        rintro e' W5 ⟨rfl, hx1, hx2, hx3⟩
        have HX := hid (And.intro hx1 (And.intro hx2 hx3))
        clear hx1 hx2 hx3
        go_wp2_with fail
        go_end0
        exact ⟨rfl, HX.out.1, HT4.out.trans HX.out.2.1, HX.out.2.2⟩
      · -- kind 11
        go_wp2_with (refine wpList_store_mid rfl 108 (.tmp 3) (.tmp 108) rfl W3.heap.size 0 #[.nilFunc, .func (.func 56) #[] #[], .func (.func 57) #[] #[], .func (.func 58) #[] #[], .func (.func 59) #[] #[], .func (.func 60) #[] #[], .func (.func 59) #[] #[], .func (.func 61) #[] #[], .func (.func 58) #[] #[], .func (.func 59) #[] #[], .func (.func 62) #[] #[], .func (.func 59) #[] #[], .func (.func 63) #[] #[], .func (.func 63) #[] #[]] rfl rfl HTH.out HI1.out HI2.out ?_; have hcell := overT_cells bz; unfold overT at hcell; have hbz : Below W3.heap.size W3 ((W3.alloc (.cells #[.nilFunc, .nilFunc, .nilFunc, .nilFunc, .nilFunc, .nilFunc, .nilFunc, .nilFunc, .nilFunc, .nilFunc, .nilFunc, .nilFunc, .nilFunc, .nilFunc] 108)).setCells W3.heap.size 0 (#[.nilFunc, .func (.func 56) #[] #[], .func (.func 57) #[] #[], .func (.func 58) #[] #[], .func (.func 59) #[] #[], .func (.func 60) #[] #[], .func (.func 59) #[] #[], .func (.func 61) #[] #[], .func (.func 58) #[] #[], .func (.func 59) #[] #[], .func (.func 62) #[] #[], .func (.func 59) #[] #[], .func (.func 63) #[] #[], .func (.func 63) #[] #[]] : Array Value).toList) := (ext_alloc (ext_refl W3) _).trans (setCells_below (B := W3.heap.size) (Nat.le_refl _) _ 0 _); generalize hW : (W3.alloc (.cells #[.nilFunc, .nilFunc, .nilFunc, .nilFunc, .nilFunc, .nilFunc, .nilFunc, .nilFunc, .nilFunc, .nilFunc, .nilFunc, .nilFunc, .nilFunc, .nilFunc] 108)).setCells W3.heap.size 0 (#[.nilFunc, .func (.func 56) #[] #[], .func (.func 57) #[] #[], .func (.func 58) #[] #[], .func (.func 59) #[] #[], .func (.func 60) #[] #[], .func (.func 59) #[] #[], .func (.func 61) #[] #[], .func (.func 58) #[] #[], .func (.func 59) #[] #[], .func (.func 62) #[] #[], .func (.func 59) #[] #[], .func (.func 63) #[] #[], .func (.func 63) #[] #[]] : Array Value).toList = W4 at *; have HBZ := hid hbz; have q1 := later hbz d1; have qf := hcell 11 (.func (.func 59) #[] #[]) rfl; clear hW hbz bz hcell d1 HTH HI1 HI2)
        have hk4 : ∀ k ∈ ks, W4.heap[k]? = W3.heap[k]? := fun k hk => HBZ.out.block k (HKS.out k hk W3 HT3.out.size)
        have HB4 := hid (HB3.out.below HBZ.out)
        have HC4 := hid (HC3.out.below HBZ.out)
        have HA4 := hid (HK.out.keep _ W3 W4 HA3.out hk4)
        have HT4 := hid (HT3.out.trans (Turn.of_below HBZ.out))
        clear hk4
        have hX : Calls Tryd.prog 59 #[.pointer (some ⟨L, 0, none⟩)] W4 (LineP ks At n i b vn vi vb L C W4 (lineK K V S c ⟨11, (t' : Int), tx, at_, v, x, why⟩ y.2)) := by
          have hz := stripe_any HK.out T V S c 11 tx at_ v x why t' y.2 L C W4 HB4.out HC4.out HA4.out HL.out HC.out HLC.out HO1.out (HM.out.k4 (by decide)) HSS.out
          exact hz
        have HX1 := hid hX
        clear hX
        refine HX1.out.mono ?_
        rintro e' W5 ⟨rfl, hx1, hx2, hx3⟩
        have HX := hid (And.intro hx1 (And.intro hx2 hx3))
        clear hx1 hx2 hx3
        go_wp2_with fail
        go_end0
        exact ⟨rfl, HX.out.1, HT4.out.trans HX.out.2.1, HX.out.2.2⟩
      · -- kind 12
        go_wp2_with (refine wpList_store_mid rfl 108 (.tmp 3) (.tmp 108) rfl W3.heap.size 0 #[.nilFunc, .func (.func 56) #[] #[], .func (.func 57) #[] #[], .func (.func 58) #[] #[], .func (.func 59) #[] #[], .func (.func 60) #[] #[], .func (.func 59) #[] #[], .func (.func 61) #[] #[], .func (.func 58) #[] #[], .func (.func 59) #[] #[], .func (.func 62) #[] #[], .func (.func 59) #[] #[], .func (.func 63) #[] #[], .func (.func 63) #[] #[]] rfl rfl HTH.out HI1.out HI2.out ?_; have hcell := overT_cells bz; unfold overT at hcell; have hbz : Below W3.heap.size W3 ((W3.alloc (.cells #[.nilFunc, .nilFunc, .nilFunc, .nilFunc, .nilFunc, .nilFunc, .nilFunc, .nilFunc, .nilFunc, .nilFunc, .nilFunc, .nilFunc, .nilFunc, .nilFunc] 108)).setCells W3.heap.size 0 (#[.nilFunc, .func (.func 56) #[] #[], .func (.func 57) #[] #[], .func (.func 58) #[] #[], .func (.func 59) #[] #[], .func (.func 60) #[] #[], .func (.func 59) #[] #[], .func (.func 61) #[] #[], .func (.func 58) #[] #[], .func (.func 59) #[] #[], .func (.func 62) #[] #[], .func (.func 59) #[] #[], .func (.func 63) #[] #[], .func (.func 63) #[] #[]] : Array Value).toList) := (ext_alloc (ext_refl W3) _).trans (setCells_below (B := W3.heap.size) (Nat.le_refl _) _ 0 _); generalize hW : (W3.alloc (.cells #[.nilFunc, .nilFunc, .nilFunc, .nilFunc, .nilFunc, .nilFunc, .nilFunc, .nilFunc, .nilFunc, .nilFunc, .nilFunc, .nilFunc, .nilFunc, .nilFunc] 108)).setCells W3.heap.size 0 (#[.nilFunc, .func (.func 56) #[] #[], .func (.func 57) #[] #[], .func (.func 58) #[] #[], .func (.func 59) #[] #[], .func (.func 60) #[] #[], .func (.func 59) #[] #[], .func (.func 61) #[] #[], .func (.func 58) #[] #[], .func (.func 59) #[] #[], .func (.func 62) #[] #[], .func (.func 59) #[] #[], .func (.func 63) #[] #[], .func (.func 63) #[] #[]] : Array Value).toList = W4 at *; have HBZ := hid hbz; have q1 := later hbz d1; have qf := hcell 12 (.func (.func 63) #[] #[]) rfl; clear hW hbz bz hcell d1 HTH HI1 HI2)
        have hk4 : ∀ k ∈ ks, W4.heap[k]? = W3.heap[k]? := fun k hk => HBZ.out.block k (HKS.out k hk W3 HT3.out.size)
        have HB4 := hid (HB3.out.below HBZ.out)
        have HC4 := hid (HC3.out.below HBZ.out)
        have HA4 := hid (HK.out.keep _ W3 W4 HA3.out hk4)
        have HT4 := hid (HT3.out.trans (Turn.of_below HBZ.out))
        clear hk4
        refine (none_any L _).mono ?_
        rintro e' W5 ⟨rfl, rfl⟩
        go_wp2_with fail
        go_end0
        exact ⟨rfl, HA4.out, HT4.out, HB4.out⟩
      · -- kind 13
        go_wp2_with (refine wpList_store_mid rfl 108 (.tmp 3) (.tmp 108) rfl W3.heap.size 0 #[.nilFunc, .func (.func 56) #[] #[], .func (.func 57) #[] #[], .func (.func 58) #[] #[], .func (.func 59) #[] #[], .func (.func 60) #[] #[], .func (.func 59) #[] #[], .func (.func 61) #[] #[], .func (.func 58) #[] #[], .func (.func 59) #[] #[], .func (.func 62) #[] #[], .func (.func 59) #[] #[], .func (.func 63) #[] #[], .func (.func 63) #[] #[]] rfl rfl HTH.out HI1.out HI2.out ?_; have hcell := overT_cells bz; unfold overT at hcell; have hbz : Below W3.heap.size W3 ((W3.alloc (.cells #[.nilFunc, .nilFunc, .nilFunc, .nilFunc, .nilFunc, .nilFunc, .nilFunc, .nilFunc, .nilFunc, .nilFunc, .nilFunc, .nilFunc, .nilFunc, .nilFunc] 108)).setCells W3.heap.size 0 (#[.nilFunc, .func (.func 56) #[] #[], .func (.func 57) #[] #[], .func (.func 58) #[] #[], .func (.func 59) #[] #[], .func (.func 60) #[] #[], .func (.func 59) #[] #[], .func (.func 61) #[] #[], .func (.func 58) #[] #[], .func (.func 59) #[] #[], .func (.func 62) #[] #[], .func (.func 59) #[] #[], .func (.func 63) #[] #[], .func (.func 63) #[] #[]] : Array Value).toList) := (ext_alloc (ext_refl W3) _).trans (setCells_below (B := W3.heap.size) (Nat.le_refl _) _ 0 _); generalize hW : (W3.alloc (.cells #[.nilFunc, .nilFunc, .nilFunc, .nilFunc, .nilFunc, .nilFunc, .nilFunc, .nilFunc, .nilFunc, .nilFunc, .nilFunc, .nilFunc, .nilFunc, .nilFunc] 108)).setCells W3.heap.size 0 (#[.nilFunc, .func (.func 56) #[] #[], .func (.func 57) #[] #[], .func (.func 58) #[] #[], .func (.func 59) #[] #[], .func (.func 60) #[] #[], .func (.func 59) #[] #[], .func (.func 61) #[] #[], .func (.func 58) #[] #[], .func (.func 59) #[] #[], .func (.func 62) #[] #[], .func (.func 59) #[] #[], .func (.func 63) #[] #[], .func (.func 63) #[] #[]] : Array Value).toList = W4 at *; have HBZ := hid hbz; have q1 := later hbz d1; have qf := hcell 13 (.func (.func 63) #[] #[]) rfl; clear hW hbz bz hcell d1 HTH HI1 HI2)
        have hk4 : ∀ k ∈ ks, W4.heap[k]? = W3.heap[k]? := fun k hk => HBZ.out.block k (HKS.out k hk W3 HT3.out.size)
        have HB4 := hid (HB3.out.below HBZ.out)
        have HC4 := hid (HC3.out.below HBZ.out)
        have HA4 := hid (HK.out.keep _ W3 W4 HA3.out hk4)
        have HT4 := hid (HT3.out.trans (Turn.of_below HBZ.out))
        clear hk4
        refine (none_any L _).mono ?_
        rintro e' W5 ⟨rfl, rfl⟩
        go_wp2_with fail
        go_end0
        exact ⟨rfl, HA4.out, HT4.out, HB4.out⟩

end
end Go.Proofs.YtokkafiphchejaaDoor
