/-
  A region that draws its order, whose last operations stand in a row behind all others: what the first ones lay lies in places of their own, each one's apart from the others'. Said of any program. Nothing of the program.
-/
import Derived.Test.YtoeegiaajngpeaaSuG1
namespace Go.Proofs.Ytoeegiaajngpeaa
set_option linter.unusedVariables false
open Go Go.RowKit
section
variable {P : Program} {ops : Array Oper} {Q : Exit → Act → World → Prop}
def ApartI (a b : Nat × Nat) : Prop := a.2 ≤ b.1 ∨ b.2 ≤ a.1
/-- What one of the first operations must do. -/
def StepI (P : Program) (ops : Array Oper) (N : Nat) (V : Nat → Value → Nat × Nat → World → Prop) (G : World → Prop) (a0 : Act) (i : Nat) (o : Oper) : Prop :=
  o.guard = none ∧ ∀ w', G w' →
    ∀ (ρ : Operand → Value), (∀ v, ρ (.const v) = v) → (∀ g, ρ (.global g) = .pointer (some ⟨g, 0, none⟩)) → (∀ f, ρ (.func f) = .func (.func f) #[] #[]) →
      (∀ j d, (depsOf o).contains j = true → dstOf ops j = some d → ∃ iv, V j (ρ (.tmp d)) iv w') → (∀ d, farN ops N d = true → ρ (.tmp d) = a0.eval (.tmp d)) →
      OpY P o ρ w' fun v w'' => V i v (w'.heap.size, w''.heap.size) w'' ∧ G w'' ∧ Below w'.heap.size w' w''
def AllI (N : Nat) (V : Nat → Value → Nat × Nat → World → Prop) (I : Nat → Nat × Nat) (l : Nat → Bool) (v : Nat → Value) (w : World) : Prop :=
  ∀ j, j < N → l j = true → V j (v j) (I j) w ∧ (I j).1 ≤ (I j).2 ∧ (I j).2 ≤ w.heap.size ∧ ∀ i, i < N → l i = true → i ≠ j → ApartI (I i) (I j)
def TailI (ops : Array Oper) (N : Nat) (V : Nat → Value → Nat × Nat → World → Prop) (G : World → Prop) (S : Nat → (Nat → Value) → World → Prop) (l : Nat → Bool) (v : Nat → Value) (w : World) : Prop :=
  (∀ j, j < ops.size → l j = true → ∀ k, (depsAt ops j).contains k = true → l k = true) ∧
  (((∀ i, N ≤ i → i < ops.size → l i = false) ∧ G w ∧ ∃ I, AllI N V I l v w) ∨
   ∃ s, N < s ∧ s ≤ ops.size ∧ (∀ i, i < s → l i = true) ∧ (∀ i, s ≤ i → i < ops.size → l i = false) ∧ S s v w)
theorem wp_region_thenI {id : Nat} {a : Act} {aF : (Nat → Value) → Act} {w : World} (N : Nat) (V : Nat → Value → Nat × Nat → World → Prop) (G : World → Prop) (S : Nat → (Nat → Value) → World → Prop)
    (hF : ∀ vals, putAll ops vals (fun _ => true) a ops.size = aF vals) (hm : P.follows .mixedOrders = true) (hd : dstsApart ops = true) (hb : edgesBackB ops = true) (hng : guardsOk ops = true)
    (hsz : (List.range ops.size).all (fun i => match dstOf ops i with | some d => decide (d < a.tmps.size) | none => true) = true)
    (hN : decide (N < ops.size) = true) (htail : tailOk ops N = true)
    (hstab : ∀ i v iv w w', V i v iv w → Below w.heap.size w w' → V i v iv w')
    (h0 : G w.drew)
    (hstart : ∀ v w' I, G w' → AllI N V I (fun _ => true) v w' → S N v w')
    (hstepA : EachOp (fun i o => StepI P ops N V G a i o) 0 (ops.toList.take N))
    (hstepB : EachOp (fun i o => StepT P ops S a i o) N (ops.toList.drop N))
    (hdone : ∀ (vals : Nat → Value) w', S ops.size vals w' → Q .normal (aF vals) w') :
    (Code.region id ops true).wp P Q a w := by
  have hNs : N < ops.size := by simpa using hN
  have hall : ∀ (l : List Oper) (n : Nat), (∀ k o, l[k]? = some o → (n + k < N → StepI P ops N V G a (n + k) o) ∧ (N ≤ n + k → StepT P ops S a (n + k) o)) → (∀ k o, l[k]? = some o → ops[n + k]? = some o) →
      EachOp (fun i o => ops[i]? = some o ∧ (i < N → StepI P ops N V G a i o) ∧ (N ≤ i → StepT P ops S a i o)) n l := by
    intro l
    induction l with
    | nil => intro n _ _; trivial
    | cons x l ih =>
      intro n h1 h2
      refine ⟨⟨by simpa using h2 0 x rfl, by simpa using h1 0 x rfl⟩, ih (n + 1) (fun k o ho => ?_) (fun k o ho => ?_)⟩
      · have := h1 (k + 1) o (by simpa using ho)
        rwa [show n + 1 + k = n + (k + 1) by omega]
      · have := h2 (k + 1) o (by simpa using ho)
        rwa [show n + 1 + k = n + (k + 1) by omega]
  have hlt : ∀ (i : Nat) (o : Oper), ops[i]? = some o → ∀ j, (depsOf o).contains j = true → j < i := by
    intro i o hio j hj
    unfold depsOf at hj
    rw [List.contains_iff_mem, List.mem_map] at hj
    obtain ⟨e, he, rfl⟩ := hj
    obtain ⟨he1, he2⟩ := List.mem_filter.1 he
    unfold edgesBackB at hb
    rw [Bool.and_eq_true] at hb
    have his : i < ops.size := (Array.getElem?_eq_some_iff.1 hio).1
    have h1 := List.all_eq_true.1 hb.1 i (List.mem_range.2 his)
    rw [hio] at h1
    have h2 := Array.all_eq_true_iff_forall_mem.1 h1 e (by simpa using he1)
    rw [he2] at h2
    simpa using h2
  have hda : ∀ (i : Nat) (o : Oper), ops[i]? = some o → depsAt ops i = depsOf o := by
    intro i o hio
    unfold depsAt; rw [hio]
  refine wp_region_invW9 (F := fun i o => ops[i]? = some o ∧ (i < N → StepI P ops N V G a i o) ∧ (N ≤ i → StepT P ops S a i o)) (TailI ops N V G S) hm hd hb hng hsz ?_ ?_ ?_ (hall ops.toList 0 (fun k o ho => ?_) (fun k o h => by simpa using h)) ?_
  · rintro l l' v w h ⟨h1, h2⟩
    refine ⟨fun j hj hl k hk => ?_, ?_⟩
    · rw [← h j hj] at hl
      have h3 := h1 j hj hl k hk
      have hks : k < ops.size := by
        obtain ⟨o, ho⟩ : ∃ o, ops[j]? = some o := ⟨_, Array.getElem?_eq_getElem hj⟩
        rw [hda j o ho] at hk
        have := hlt j o ho k hk
        omega
      rw [← h k hks]; exact h3
    · rcases h2 with ⟨h3, h4, h5⟩ | ⟨s, h3, h4, h5, h6, h7⟩
      · obtain ⟨I, h5⟩ := h5
        exact .inl ⟨fun i hi his => by rw [← h i his]; exact h3 i hi his, h4, I, fun j hj hl => by
          obtain ⟨g1, g2, g3, g4⟩ := h5 j hj (by rw [h j (by omega)]; exact hl)
          exact ⟨g1, g2, g3, fun i hi hli hne => g4 i hi (by rw [h i (by omega)]; exact hli) hne⟩⟩
      · exact .inr ⟨s, h3, h4, fun i hi => by rw [← h i (by omega)]; exact h5 i hi, fun i hi his => by rw [← h i his]; exact h6 i hi his, h7⟩
  · exact ⟨(fun j _ h => by cases h), .inl ⟨(fun _ _ _ => rfl), h0, fun _ => (0, 0), (fun j _ h => by cases h)⟩⟩
  · rintro i o ⟨hio, hA, hB⟩
    intro l v w' hl hdp hJ
    obtain ⟨hC, hP⟩ := hJ
    have his : i < ops.size := (Array.getElem?_eq_some_iff.1 hio).1
    have hC' : ∀ j, j < ops.size → doneL l i j = true → ∀ k, (depsAt ops j).contains k = true → doneL l i k = true := by
      intro j hj hlj k hk
      unfold doneL at hlj ⊢
      by_cases hki : k = i
      · rw [if_pos hki]
      · rw [if_neg hki]
        by_cases hji : j = i
        · subst hji
          rw [hda j o hio] at hk
          exact hdp k hk
        · rw [if_neg hji] at hlj
          exact hC j hj hlj k hk
    by_cases hiN : i < N
    · -- one of the first
      have hst := hA hiN
      rcases hP with ⟨h3, hG, hv⟩ | ⟨s, h3, h4, h5, h6, h7⟩
      case inr => rw [h5 i (by omega)] at hl; cases hl
      obtain ⟨I, hv⟩ := hv
      obtain ⟨hgn, hst⟩ := hst
      refine ⟨(fun g b hg => by rw [hgn] at hg; cases hg), fun _ a' _hs h4 h5 K Qp hK => OpY.wp ?_⟩
      refine (hst w' hG a'.eval (fun _ => rfl) (fun _ => rfl) (fun _ => rfl) (fun j d hj hjd => ?_) (fun d hfar => h5 d (fun j hjd => ?_))).mono fun x w'' h => hK x w'' ⟨hC', .inl ⟨fun k hk hks => ?_, h.2.1, fun k => if k = i then (w'.heap.size, w''.heap.size) else I k, fun j hj hlj => ?_⟩⟩
      · rw [h4 j d hj hjd]
        exact ⟨_, (hv j (by have := hlt i o hio j hj; omega) (hdp j hj)).1⟩
      · rcases Nat.lt_or_ge j N with hjN | hjN
        · have := List.all_eq_true.1 hfar j (List.mem_range.2 hjN)
          simp [hjd] at this
        · have hjs : j < ops.size := by
            unfold dstOf at hjd
            rcases Nat.lt_or_ge j ops.size with h | h
            · exact h
            · rw [Array.getElem?_eq_none h] at hjd; cases hjd
          exact h3 j hjN hjs
      · unfold doneL; rw [if_neg (by omega)]; exact h3 k hk hks
      · have hsz := h.2.2.size
        unfold doneL at hlj
        unfold doneV
        by_cases hji : j = i
        · subst hji
          simp only [if_true]
          refine ⟨h.1, hsz, Nat.le_refl _, fun k hk hlk hne => ?_⟩
          unfold doneL at hlk
          rw [if_neg hne] at hlk ⊢
          obtain ⟨g1, g2, g3, g4⟩ := hv k hk hlk
          exact .inl g3
        · rw [if_neg hji] at hlj
          rw [if_neg hji]
          simp only [if_neg hji]
          obtain ⟨g1, g2, g3, g4⟩ := hv j hj hlj
          refine ⟨hstab _ _ _ _ _ g1 h.2.2, g2, by omega, fun k hk hlk hne => ?_⟩
          unfold doneL at hlk
          by_cases hki : k = i
          · subst hki
            simp only [if_true]
            exact .inr g3
          · rw [if_neg hki] at hlk ⊢
            exact g4 k hk hlk hne
    · -- one of the last
      have hst := hB (by omega)
      obtain ⟨hgn, hst⟩ := hst
      -- all ahead are done
      have hcl : ClosedL ops (fun k => if k < ops.size then l k else true) := by
        intro j hj k hk
        dsimp only at hj ⊢
        by_cases hks : k < ops.size
        · rw [if_pos hks]
          by_cases hjs : j < ops.size
          · rw [if_pos hjs] at hj
            exact hC j hjs hj k hk
          · exfalso
            unfold depsAt at hk
            rw [Array.getElem?_eq_none (by omega)] at hk
            cases hk
        · rw [if_neg hks]
      have hdn : ∀ j, j < i → l j = true := by
        intro j hj
        have ht := List.all_eq_true.1 htail i (List.mem_range.2 his)
        rw [Bool.or_eq_true] at ht
        rcases ht with ht | ht
        · simp at ht; omega
        · have ht := List.all_eq_true.1 ht j (List.mem_range.2 hj)
          have := reach_done hcl (i + 1) i j (fun k hk => by
            rw [hda i o hio] at hk
            by_cases hks : k < ops.size
            · rw [if_pos hks]; exact hdp k hk
            · rw [if_neg hks]) ht
          rwa [if_pos (by omega)] at this
      have hS : S i v w' ∧ ∀ k, i ≤ k → k < ops.size → l k = false := by
        rcases hP with ⟨h3, hG, hv⟩ | ⟨s, h3, h4, h5, h6, h7⟩
        · have hiN' : i = N := by
            rcases Nat.lt_or_ge N i with h | h
            · have := hdn N h
              rw [h3 N (Nat.le_refl _) hNs] at this
              cases this
            · omega
          subst hiN'
          obtain ⟨I, hv⟩ := hv
          exact ⟨hstart v w' I hG (fun j hj _ => by
            obtain ⟨g1, g2, g3, g4⟩ := hv j hj (hdn j hj)
            exact ⟨g1, g2, g3, fun k hk _ hne => g4 k hk (hdn k hk) hne⟩), h3⟩
        · have hsi : s = i := by
            rcases Nat.lt_trichotomy s i with h | h | h
            · have h8 := hdn s h
              rw [h6 s (Nat.le_refl _) (by omega)] at h8
              cases h8
            · exact h
            · rw [h5 i h] at hl; cases hl
          subst hsi
          exact ⟨h7, h6⟩
      refine ⟨(fun g b hg => by rw [hgn] at hg; cases hg), fun _ a' _hs h4 h5 K Qp hK => OpY.wp ?_⟩
      refine (hst v w' hS.1 a'.eval (fun _ => rfl) (fun _ => rfl) (fun _ => rfl) h4 (fun d _ hfar => h5 d (fun j hjd => ?_))).mono fun x w'' h => hK x w'' ⟨hC', .inr ⟨i + 1, by omega, by omega, fun k hk => ?_, fun k hk hks => ?_, h⟩⟩
      · exfalso
        unfold farOf at hfar
        have hjs : j < ops.size := by
          unfold dstOf at hjd
          rcases Nat.lt_or_ge j ops.size with h | h
          · exact h
          · rw [Array.getElem?_eq_none h] at hjd; cases hjd
        have := List.all_eq_true.1 hfar j (List.mem_range.2 hjs)
        simp [hjd] at this
      · unfold doneL
        by_cases hki : k = i
        · rw [if_pos hki]
        · rw [if_neg hki]; exact hdn k (by omega)
      · unfold doneL
        rw [if_neg (by omega)]; exact hS.2 k (by omega) hks
  · rw [Nat.zero_add]
    refine ⟨fun hk => ?_, fun hk => ?_⟩
    · have := EachOp.get hstepA k o (by rw [List.getElem?_take]; simp [hk]; simpa using ho)
      rwa [Nat.zero_add] at this
    · have := EachOp.get hstepB (k - N) o (by rw [List.getElem?_drop]; rw [show N + (k - N) = k by omega]; simpa using ho)
      rwa [show N + (k - N) = k by omega] at this
  · rintro v w' ⟨-, h⟩
    rw [hF]
    rcases h with ⟨h3, -, -⟩ | ⟨s, h3, h4, h5, h6, h7⟩
    · exact absurd (h3 N (Nat.le_refl _) hNs) (by simp)
    · have : s = ops.size := by
        rcases Nat.lt_or_ge s ops.size with h | h
        · exact absurd (h6 s (Nat.le_refl _) h) (by simp)
        · omega
      subst this
      exact hdone v w' h7
end
end Go.Proofs.Ytoeegiaajngpeaa
