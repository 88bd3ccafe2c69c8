/-
  A region that draws its order, of whose operations' values something is known that stays true (they may depend on the run), some of them not wanted; said operation by operation without a frame. Said of any program. Nothing of the program.
-/
import Derived.Test.YtokkafiphchejaaDoorReg6
namespace Go.Proofs.YtokkafiphchejaaDoor
set_option linter.unusedVariables false
open Go
section
variable {P : Program} {ops : Array Oper} {Q : Exit → Act → World → Prop}
def GuardV (V : Nat → Value → World → Prop) (i : Nat) (o : Oper) : Prop := ∀ (g : Nat) (b : Bool), o.guard = some (g, b) → ∃ b', (∀ v w, V g v w → v = .bool b') ∧ (b' ≠ b → ∀ w, V i undef w)
/-- What an operation must do. -/
def StepV (P : Program) (ops : Array Oper) (V : Nat → Value → World → Prop) (G : World → Prop) (Gr : World → World → Prop) (a0 : Act) (i : Nat) (o : Oper) : Prop :=
  GuardV V i o ∧ ∀ w', G w' → (∀ (g : Nat) (b : Bool), o.guard = some (g, b) → ∀ v w, V g v w → v = .bool b) →
    ∀ (ρ : Operand → Value), (∀ v, ρ (.const v) = v) → (∀ g, ρ (.global g) = .pointer (some ⟨g, 0, none⟩)) → (∀ f, ρ (.func f) = .func (.func f) #[] #[]) →
      (∀ j d, (depsOf o).contains j = true → dstOf ops j = some d → V j (ρ (.tmp d)) w') → (∀ d, farOf ops d = true → ρ (.tmp d) = a0.eval (.tmp d)) →
      OpY P o ρ w' fun v w'' => V i v w'' ∧ G w'' ∧ Gr w' w''
theorem wp_region_knownV {id : Nat} {a : Act} {aF : (Nat → Value) → Act} {w : World} (V : Nat → Value → World → Prop) (G : World → Prop) (Gr : World → World → Prop) (hF : ∀ vals, putAll ops vals (fun _ => true) a ops.size = aF vals) (hm : P.follows .mixedOrders = true) (hd : dstsApart ops = true) (hb : edgesBackB ops = true) (hng : guardsOk ops = true)
    (hsz : (List.range ops.size).all (fun i => match dstOf ops i with | some d => decide (d < a.tmps.size) | none => true) = true)
    (hstab : ∀ i v w w', V i v w → Gr w w' → V i v w')
    (h0 : G w.drew)
    (hstep : EachOp (fun i o => StepV P ops V G Gr a i o) 0 ops.toList)
    (hdone : ∀ (vals : Nat → Value) w', G w' → (∀ i, i < ops.size → V i (vals i) w') → Q .normal (aF vals) w') :
    (Code.region id ops true).wp P Q a w := by
  have hall : ∀ (l : List Oper) (n : Nat), (∀ k o, l[k]? = some o → ops[n + k]? = some o) → EachOp (fun i o => StepV P ops V G Gr a i o) n l → EachOp (fun i o => ops[i]? = some o ∧ StepV P ops V G Gr a i o) n l := by
    intro l
    induction l with
    | nil => intro n _ _; trivial
    | cons x l ih =>
      intro n hk h
      refine ⟨⟨by simpa using hk 0 x rfl, h.1⟩, ih (n + 1) (fun k o ho => ?_) h.2⟩
      have := hk (k + 1) o (by simpa using ho)
      have e : n + 1 + k = n + (k + 1) := by omega
      rw [e]; exact this
  refine wp_region_invW (F := fun i o => ops[i]? = some o ∧ StepV P ops V G Gr a i o) (fun l v w => G w ∧ ∀ j, j < ops.size → l j = true → V j (v j) w) hm hd hb hng hsz
    (fun l l' v w h hJ => ⟨hJ.1, fun j hj hl => hJ.2 j hj (by rw [h j hj]; exact hl)⟩) ⟨h0, fun j _ h => by cases h⟩ ?_ (hall ops.toList 0 (fun k o h => by simpa using h) hstep) ?_
  · rintro i o ⟨hio, hgk, hst⟩
    refine StepJ.toW ?_
    intro l v w' hl hdp hJ
    obtain ⟨hG, hv⟩ := hJ
    have his : i < ops.size := (Array.getElem?_eq_some_iff.1 hio).1
    have hlt : ∀ j, (depsOf o).contains j = true → j < ops.size := by
      intro j hj
      have h1 := Array.all_eq_true_iff_forall_mem.1 (edges_onB hb) o (Array.mem_of_getElem? hio)
      unfold depsOf at hj
      rw [List.contains_iff_mem, List.mem_map] at hj
      obtain ⟨e, he, rfl⟩ := hj
      have := Array.all_eq_true_iff_forall_mem.1 h1 e (by simpa using (List.mem_filter.1 he).1)
      simpa using this
    have hnx : ∀ x w'', V i x w'' → G w'' → (∀ j, j < ops.size → l j = true → V j (v j) w'') → (G w'' ∧ ∀ j, j < ops.size → doneL l i j = true → V j (doneV v i x j) w'') := by
      intro x w'' hx hG' hall'
      refine ⟨hG', fun j hj hlj => ?_⟩
      unfold doneL at hlj
      unfold doneV
      by_cases hji : j = i
      · subst hji; rw [if_pos rfl]; exact hx
      · rw [if_neg hji] at hlj ⊢; exact hall' j hj hlj
    have hgd : ∀ g b, o.guard = some (g, b) → (depsOf o).contains g = true := by
      intro g b hg
      have h1 := Array.all_eq_true_iff_forall_mem.1 hng o (Array.mem_of_getElem? hio)
      rw [hg] at h1
      simp only [Bool.and_eq_true] at h1
      exact h1.1.1
    refine ⟨fun g b hg => ?_, fun hg ρ h1 h2 h3 h4 h5 => ?_⟩
    · obtain ⟨b', hb1, hb2⟩ := hgk g b hg
      have hgv := hb1 _ _ (hv g (hlt g (hgd g b hg)) (hdp g (hgd g b hg)))
      exact ⟨b', hgv, fun hne => hnx undef w' (hb2 hne w') hG hv⟩
    · refine (hst w' hG (fun g b h v0 w0 hv0 => ?_) ρ h1 h2 h3 (fun j d hj hjd => ?_) h5).mono fun x w'' h => hnx x w'' h.1 h.2.1 (fun j hj hlj => hstab j _ _ _ (hv j hj hlj) h.2.2)
      · obtain ⟨b', hb1, -⟩ := hgk g b h
        have e1 := hb1 _ _ (hv g (hlt g (hgd g b h)) (hdp g (hgd g b h)))
        have e2 := hg g b h
        rw [e1] at e2
        rw [hb1 _ _ hv0, e2]
      · rw [h4 j d hj hjd]
        exact hv j (hlt j hj) (hdp j hj)
  · intro v w' h
    rw [hF]
    exact hdone v w' h.1 (fun i hi => h.2 i hi rfl)
end
end Go.Proofs.YtokkafiphchejaaDoor
