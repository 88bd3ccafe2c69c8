/-
  A region that draws its order, whose operations' values are known ahead (some of them not wanted), said operation by operation without a frame. And a region of two stores. Said of any program. Nothing of the program.
-/
import Derived.Test.YtokkafiphchejaaDoorReg5
namespace Go.Proofs.YtokkafiphchejaaDoor
set_option linter.unusedVariables false
open Go
section
variable {P : Program} {ops : Array Oper} {Q : Exit → Act → World → Prop}
/-- A value that is wanted only if not. -/
def WF (s : Bool) (x : Value) : Value := match s with | true => undef | false => x
/-- A value that is wanted only if so. -/
def WT (s : Bool) (x : Value) : Value := match s with | true => x | false => undef
def GuardK (K : Nat → Value) (i : Nat) (o : Oper) : Prop := ∀ (g : Nat) (b : Bool), o.guard = some (g, b) → ∃ b', K g = .bool b' ∧ (b' ≠ b → K i = undef)
/-- What an operation must do. -/
def StepK (P : Program) (ops : Array Oper) (K : Nat → Value) (G : World → Prop) (a0 : Act) (i : Nat) (o : Oper) : Prop :=
  GuardK K i o ∧ ∀ w', G w' → (∀ (g : Nat) (b : Bool), o.guard = some (g, b) → K g = .bool b) →
    ∀ (ρ : Operand → Value), (∀ v, ρ (.const v) = v) → (∀ g, ρ (.global g) = .pointer (some ⟨g, 0, none⟩)) → (∀ f, ρ (.func f) = .func (.func f) #[] #[]) →
      (∀ j d, (depsOf o).contains j = true → dstOf ops j = some d → ρ (.tmp d) = K j) → (∀ d, farOf ops d = true → ρ (.tmp d) = a0.eval (.tmp d)) →
      OpY P o ρ w' fun v w'' => (o.dst = none ∨ v = K i) ∧ G w''
theorem wp_region_known {id : Nat} {a aF : Act} {w : World} (K : Nat → Value) (G : World → Prop) (hF : putAll ops K (fun _ => true) a ops.size = aF) (hm : P.follows .mixedOrders = true) (hd : dstsApart ops = true) (hb : edgesBackB ops = true) (hng : guardsOk ops = true)
    (hsz : (List.range ops.size).all (fun i => match dstOf ops i with | some d => decide (d < a.tmps.size) | none => true) = true)
    (h0 : G w.drew)
    (hstep : EachOp (fun i o => StepK P ops K G a i o) 0 ops.toList)
    (hdone : ∀ w', G w' → Q .normal aF w') :
    (Code.region id ops true).wp P Q a w := by
  subst hF
  have hall : ∀ (l : List Oper) (n : Nat), (∀ k o, l[k]? = some o → ops[n + k]? = some o) → EachOp (fun i o => StepK P ops K G a i o) n l → EachOp (fun i o => ops[i]? = some o ∧ StepK P ops K G a i o) n l := by
    intro l
    induction l with
    | nil => intro n _ _; trivial
    | cons x l ih =>
      intro n hk h
      refine ⟨⟨by simpa using hk 0 x rfl, h.1⟩, ih (n + 1) (fun k o ho => ?_) h.2⟩
      have := hk (k + 1) o (by simpa using ho)
      have e : n + 1 + k = n + (k + 1) := by omega
      rw [e]; exact this
  refine wp_region_invW (F := fun i o => ops[i]? = some o ∧ StepK P ops K G a i o) (fun l v w => G w ∧ ∀ j d, l j = true → dstOf ops j = some d → v j = K j) hm hd hb hng hsz
    (fun l l' v w h hJ => ⟨hJ.1, fun j d hj hjd => hJ.2 j d ?_ hjd⟩) ⟨h0, fun j d h => by cases h⟩ ?_ (hall ops.toList 0 (fun k o h => by simpa using h) hstep) ?_
  · have hjs : j < ops.size := by
      rcases Nat.lt_or_ge j ops.size with h | h
      · exact h
      · unfold dstOf at hjd; rw [Array.getElem?_eq_none h] at hjd; simp at hjd
    rw [h j hjs]; exact hj
  · rintro i o ⟨hio, hgk, hst⟩
    refine StepJ.toW ?_
    intro l v w' hl hdp hJ
    obtain ⟨hG, hv⟩ := hJ
    have hdo : dstOf ops i = o.dst := by unfold dstOf; rw [hio]; rfl
    have hnx : ∀ x, (o.dst = none ∨ x = K i) → ∀ j d, doneL l i j = true → dstOf ops j = some d → doneV v i x j = K j := by
      intro x hx j d hj hjd
      unfold doneL at hj
      unfold doneV
      by_cases hji : j = i
      · subst hji
        rw [if_pos rfl]
        rcases hx with hx | hx
        · rw [hdo, hx] at hjd; cases hjd
        · exact hx
      · rw [if_neg hji] at hj ⊢
        exact hv j d hj hjd
    have hgv : ∀ g b, o.guard = some (g, b) → v g = K g := by
      intro g b hg
      have h1 := Array.all_eq_true_iff_forall_mem.1 hng o (Array.mem_of_getElem? hio)
      rw [hg] at h1
      simp only [Bool.and_eq_true, decide_eq_true_eq, Option.isSome_iff_exists] at h1
      obtain ⟨⟨h3, -⟩, d, hd'⟩ := h1
      exact hv g d (hdp g h3) hd'
    refine ⟨fun g b hg => ?_, fun hg ρ h1 h2 h3 h4 h5 => ?_⟩
    · obtain ⟨b', hb1, hb2⟩ := hgk g b hg
      exact ⟨b', (hgv g b hg).trans hb1, fun hne => ⟨hG, hnx undef (Or.inr (hb2 hne).symm)⟩⟩
    · refine (hst w' hG (fun g b h => (hgv g b h).symm.trans (hg g b h)) ρ h1 h2 h3 (fun j d hj hjd => ?_) h5).mono fun x w'' h => ⟨h.2, hnx x h.1⟩
      rw [h4 j d hj hjd]
      exact hv j d (hdp j hj) hjd
  · intro v w' h
    rw [putAll_congr_dst (vals' := K) ops.size (fun i d hi hid => h.2 i d rfl hid)]
    exact hdone w' h.1
/-- Two stores, one behind the other. -/
structure TwoSt (W0 : World) (b p q : Nat) (x y : Value) (m n : Nat) (l : Nat → Bool) (w' : World) : Prop where
  ord : l n = true → l m = true
  is : w' = if l n = true then ((W0.setCell ⟨b, p, none⟩ x).setCell ⟨b, q, none⟩ y) else if l m = true then W0.setCell ⟨b, p, none⟩ x else W0
variable {W0 w' : World} {b p q m n : Nat} {x y : Value} {l : Nat → Bool}
theorem TwoSt.ext {k : Nat} {l' : Nat → Bool} (hm : m < k) (hn : n < k) (h : ∀ i, i < k → l i = l' i) (H : TwoSt W0 b p q x y m n l w') : TwoSt W0 b p q x y m n l' w' where
  ord h1 := by rw [← h m hm]; exact H.ord (by rw [h n hn]; exact h1)
  is := by rw [← h m hm, ← h n hn]; exact H.is
theorem TwoSt.start : TwoSt W0 b p q x y m n (fun _ => false) W0 where
  ord h := by cases h
  is := rfl
theorem TwoSt.other (i : Nat) (h1 : i ≠ m) (h2 : i ≠ n) (H : TwoSt W0 b p q x y m n l w') : TwoSt W0 b p q x y m n (doneL l i) w' where
  ord h := by
    unfold doneL at h ⊢
    rw [if_neg (Ne.symm h1)]; rw [if_neg (Ne.symm h2)] at h
    exact H.ord h
  is := by
    unfold doneL
    rw [if_neg (Ne.symm h1), if_neg (Ne.symm h2)]
    exact H.is
theorem TwoSt.first (hne : m ≠ n) (hl : l m = false) (H : TwoSt W0 b p q x y m n l w') : w' = W0 ∧ TwoSt W0 b p q x y m n (doneL l m) (W0.setCell ⟨b, p, none⟩ x) := by
  have hn : l n = false := by
    cases h : l n with
    | false => rfl
    | true => rw [H.ord h] at hl; cases hl
  refine ⟨by rw [H.is, hl, hn]; rfl, ?_, ?_⟩
  · intro _; unfold doneL; rw [if_pos rfl]
  · unfold doneL
    rw [if_pos rfl, if_neg (Ne.symm hne), hn]; rfl
theorem TwoSt.second (hne : m ≠ n) (hm : l m = true) (hl : l n = false) (H : TwoSt W0 b p q x y m n l w') : w' = W0.setCell ⟨b, p, none⟩ x ∧ TwoSt W0 b p q x y m n (doneL l n) ((W0.setCell ⟨b, p, none⟩ x).setCell ⟨b, q, none⟩ y) := by
  refine ⟨by rw [H.is, hm, hl]; rfl, ?_, ?_⟩
  · intro _; unfold doneL; rw [if_neg hne]; exact hm
  · unfold doneL
    rw [if_pos rfl]; rfl
theorem TwoSt.done (H : TwoSt W0 b p q x y m n (fun _ => true) w') : w' = ((W0.setCell ⟨b, p, none⟩ x).setCell ⟨b, q, none⟩ y) := H.is
end
end Go.Proofs.YtokkafiphchejaaDoor
