/-
  As Reg8, for regions that read a slot which a later operation of theirs writes: before that the slot holds what it held ahead. Said of any program. Nothing of the program.
-/
import Derived.Test.YtokkafiphchejaaDoorReg8
namespace Go.Proofs.YtokkafiphchejaaDoor
set_option linter.unusedVariables false
open Go
section
variable {P : Program} {ops : Array Oper} {Q : Exit → Act → World → Prop}
theorem putAll_eval_undone {vals : Nat → Value} {listed : Nat → Bool} {a : Act} {d : Tmp} : ∀ (n : Nat), (∀ j, j < n → dstOf ops j = some d → listed j = false) → (putAll ops vals listed a n).eval (.tmp d) = a.eval (.tmp d)
  | 0, _ => rfl
  | n + 1, h => by
    simp only [putAll]
    split
    · rename_i hl
      rw [eval_put_other (fun hd => by rw [h n (by omega) hd] at hl; cases hl)]
      exact putAll_eval_undone n (fun j hj => h j (by omega))
    · exact putAll_eval_undone n (fun j hj => h j (by omega))
def StepW9 (P : Program) (ops : Array Oper) (J : (Nat → Bool) → (Nat → Value) → World → Prop) (a0 : Act) (i : Nat) (o : Oper) : Prop :=
  ∀ (listed : Nat → Bool) (vals : Nat → Value) (w' : World), listed i = false → (∀ j, (depsOf o).contains j = true → listed j = true) → J listed vals w' →
    (∀ (g : Nat) (b : Bool), o.guard = some (g, b) → ∃ b', vals g = .bool b' ∧ (b' ≠ b → J (doneL listed i) (doneV vals i undef) w')) ∧
    ((∀ (g : Nat) (b : Bool), o.guard = some (g, b) → vals g = .bool b) →
      ∀ (a' : Act), a'.tmps.size = a0.tmps.size → (∀ j d, (depsOf o).contains j = true → dstOf ops j = some d → a'.eval (.tmp d) = vals j) → (∀ d, (∀ j, dstOf ops j = some d → listed j = false) → a'.eval (.tmp d) = a0.eval (.tmp d)) →
        ∀ (K : Act → World → Prop) (Qp : Exit → Act → World → Prop), (∀ v w'', J (doneL listed i) (doneV vals i v) w'' → K (a'.put o.dst v) w'') → o.wp P a' w' K Qp)
theorem wpAny_inv9 (hd : dstsApart ops = true) (hng : guardsOk ops = true) (J : (Nat → Bool) → (Nat → Value) → World → Prop) (a0 : Act)
    (hsz : (List.range ops.size).all (fun i => match dstOf ops i with | some d => decide (d < a0.tmps.size) | none => true) = true)
    (hext : ∀ (l l' : Nat → Bool) (v : Nat → Value) w, (∀ i, i < ops.size → l i = l' i) → J l v w → J l' v w)
    (hstep : ∀ i o, ops[i]? = some o → StepW9 P ops J a0 i o)
    (hdone : ∀ (vals : Nat → Value) w', J (fun _ => true) vals w' → Q .normal (putAll ops vals (fun _ => true) a0 ops.size) w')
    (hon : ops.all (fun o => o.after.all fun e => decide (e.on < ops.size)) = true)
    (hready : ∀ listed : Array Bool, listed.size = ops.size → Region.ready .any ops listed = [] → ∀ i, i < ops.size → listed.getD i false = true) :
    ∀ (fuel : Nat) (listed : Array Bool) (vals : Nat → Value) (w : World), listed.size = ops.size → ((List.range ops.size).filter fun i => !listed.getD i true).length ≤ fuel → J (fun i => listed.getD i false) vals w →
      wpAny P .any ops Q fuel listed (putAll ops vals (fun i => listed.getD i false) a0 ops.size) w := by
  intro fuel
  induction fuel with
  | zero =>
    intro listed vals w hls hf hJ
    have hdn : ∀ i, i < ops.size → listed.getD i false = true := by
      intro i hi
      cases h : listed.getD i false with
      | true => rfl
      | false =>
        have hi' : i < listed.size := by omega
        have h2 : listed.getD i true = false := by simp only [Array.getD, hi', dite_true] at h ⊢; exact h
        have hm : i ∈ (List.range ops.size).filter fun i => !listed.getD i true := List.mem_filter.2 ⟨List.mem_range.2 hi, by simp [h2]⟩
        have : 0 < ((List.range ops.size).filter fun i => !listed.getD i true).length := List.length_pos_of_mem hm
        omega
    have hr : Region.ready .any ops listed = [] := by
      unfold Region.ready
      rw [List.filter_eq_nil_iff]
      intro i hi
      have hi' := List.mem_range.1 hi
      have h1 := hdn i hi'
      have h2 : listed.getD i true = true := by
        have : i < listed.size := by omega
        simp only [Array.getD, this, dite_true] at h1 ⊢; exact h1
      simp [h2]
    refine ⟨hr, ?_⟩
    rw [putAll_congr (vals' := vals) (listed' := fun _ => true) ops.size (fun i hi => ⟨hdn i hi, fun _ => rfl⟩)]
    exact hdone vals w (hext _ _ _ _ (fun i hi => hdn i hi) hJ)
  | succ fuel ih =>
    intro listed vals w hls hf hJ
    refine ⟨fun hr => ?_, fun i hi => ?_⟩
    · have hdn := hready listed hls hr
      rw [putAll_congr (vals' := vals) (listed' := fun _ => true) ops.size (fun i hi => ⟨hdn i hi, fun _ => rfl⟩)]
      exact hdone vals w (hext _ _ _ _ (fun i hi => hdn i hi) hJ)
    · unfold Region.ready at hi
      rw [List.mem_filter, List.mem_range] at hi
      obtain ⟨his, hi2⟩ := hi
      simp only [Bool.and_eq_true, Bool.not_eq_true'] at hi2
      obtain ⟨hil, hi3⟩ := hi2
      obtain ⟨o, ho⟩ : ∃ o, ops[i]? = some o := ⟨_, Array.getElem?_eq_getElem his⟩
      rw [ho] at hi3
      simp only [Option.map_some, Option.getD_some] at hi3
      have hil' : listed.getD i false = false := by
        have : i < listed.size := by omega
        simp only [Array.getD, this, dite_true] at hil ⊢; exact hil
      have hson := Array.all_eq_true_iff_forall_mem.1 hon o (Array.mem_of_getElem? ho)
      have hdeps : ∀ j, (depsOf o).contains j = true → listed.getD j false = true ∧ j < ops.size := by
        intro j hj
        unfold depsOf at hj
        rw [List.contains_iff_mem, List.mem_map] at hj
        obtain ⟨e, he, rfl⟩ := hj
        obtain ⟨he1, he2⟩ := List.mem_filter.1 he
        have h1 := Array.all_eq_true_iff_forall_mem.1 hi3 e (by simpa using he1)
        rw [he2] at h1
        simp only [Bool.not_true, Bool.false_or] at h1
        have := Array.all_eq_true_iff_forall_mem.1 hson e (by simpa using he1)
        exact ⟨h1, by simpa using this⟩
      have hreads : ∀ j d, (depsOf o).contains j = true → dstOf ops j = some d → (putAll ops vals (fun i => listed.getD i false) a0 ops.size).eval (.tmp d) = vals j := by
        intro j d hj hjd
        obtain ⟨h1, h2⟩ := hdeps j hj
        have hds : d < a0.tmps.size := by
          have := List.all_eq_true.1 hsz j (List.mem_range.2 h2)
          rw [hjd] at this
          simpa using this
        exact putAll_eval_at hd hjd h1 hds ops.size h2 (Nat.le_refl _)
      obtain ⟨hs1, hs2⟩ := hstep i o ho _ vals w hil' (fun j hj => (hdeps j hj).1) hJ
      have hgy : ∀ g b, o.guard = some (g, b) → ∀ b', vals g = .bool b' → yielded ops (putAll ops vals (fun i => listed.getD i false) a0 ops.size).tmps g = some b' := by
        intro g b hg b' hv
        have h1 := Array.all_eq_true_iff_forall_mem.1 hng o (Array.mem_of_getElem? ho)
        rw [hg] at h1
        simp only [Bool.and_eq_true, decide_eq_true_eq, Option.isSome_iff_exists] at h1
        obtain ⟨⟨h3, hgs⟩, d, hd'⟩ := h1
        have hds : d < a0.tmps.size := by
          have := List.all_eq_true.1 hsz g (List.mem_range.2 hgs)
          rw [hd'] at this
          simpa using this
        exact yielded_is hd' (by rw [putAll_size]; exact hds) ((hreads g d h3 hd').trans hv)
      have hnext : ∀ v w'', J (doneL (fun i => listed.getD i false) i) (doneV vals i v) w'' →
          wpAny P .any ops Q fuel (listed.setIfInBounds i true) ((putAll ops vals (fun i => listed.getD i false) a0 ops.size).put o.dst v) w'' := by
        intro v w'' hJ'
        have hdo : o.dst = dstOf ops i := by unfold dstOf; rw [ho]; rfl
        rw [hdo, putAll_put hd hil' ops.size his (Nat.le_refl _)]
        have hcg : putAll ops (fun k => if k = i then v else vals k) (fun k => if k = i then true else listed.getD k false) a0 ops.size = putAll ops (fun k => if k = i then v else vals k) (fun k => (listed.setIfInBounds i true).getD k false) a0 ops.size :=
          putAll_congr ops.size (fun k hk => ⟨by rw [setIf_getD (by omega)], fun _ => rfl⟩)
        rw [hcg]
        refine ih (listed.setIfInBounds i true) _ w'' (by simpa using hls) ?_ ?_
        · have hsub : ((List.range ops.size).filter fun k => !(listed.setIfInBounds i true).getD k true).length < ((List.range ops.size).filter fun k => !listed.getD k true).length := by
            have e1 : ((List.range ops.size).filter fun k => !(listed.setIfInBounds i true).getD k true) = ((List.range ops.size).filter fun k => !listed.getD k true).filter fun k => decide (k ≠ i) := by
              rw [List.filter_filter]
              apply List.filter_congr
              intro k hk
              rw [setIf_getD (by omega)]
              by_cases hki : k = i <;> simp [hki]
            rw [e1]
            refine List.length_filter_lt_length_iff_exists.2 ⟨i, List.mem_filter.2 ⟨List.mem_range.2 his, by simp [hil]⟩, by simp⟩
          omega
        · refine hext _ _ _ _ (fun k hk => ?_) hJ'
          rw [setIf_getD (by omega)]
          rfl
      unfold wpOp
      simp only [ho]
      split
      · rename_i hw
        left
        refine hs2 ?_ _ (putAll_size _) hreads (fun d hfar => ?_) _ _ hnext
        · intro g b hg
          obtain ⟨b', hv, -⟩ := hs1 g b hg
          have := hgy g b hg b' hv
          unfold Region.wanted at hw
          rw [hg] at hw
          simp only [this] at hw
          rw [hv]
          simp at hw
          rw [hw]
        · exact putAll_eval_undone ops.size (fun j _ hjd => hfar j hjd)
      · rename_i hw
        refine hnext _ _ ?_
        unfold Region.wanted at hw
        cases hg : o.guard with
        | none => rw [hg] at hw; simp at hw
        | some gb =>
          obtain ⟨g, b⟩ := gb
          obtain ⟨b', hv, hu⟩ := hs1 g b hg
          rw [hg] at hw
          simp only [hgy g b hg b' hv] at hw
          exact hu (by simpa using hw)
theorem wp_region_invW9 {F : Nat → Oper → Prop} {id : Nat} {a : Act} {w : World} (J : (Nat → Bool) → (Nat → Value) → World → Prop) (hm : P.follows .mixedOrders = true) (hd : dstsApart ops = true) (hb : edgesBackB ops = true) (hng : guardsOk ops = true)
    (hsz : (List.range ops.size).all (fun i => match dstOf ops i with | some d => decide (d < a.tmps.size) | none => true) = true)
    (hext : ∀ (l l' : Nat → Bool) (v : Nat → Value) w, (∀ i, i < ops.size → l i = l' i) → J l v w → J l' v w)
    (h0 : J (fun _ => false) (fun _ => undef) w.drew)
    (hto : ∀ i o, F i o → StepW9 P ops J a i o)
    (hstep : EachOp F 0 ops.toList)
    (hdone : ∀ (vals : Nat → Value) w', J (fun _ => true) vals w' → Q .normal (putAll ops vals (fun _ => true) a ops.size) w') :
    (Code.region id ops true).wp P Q a w := by
  refine wp_region_any hm ?_
  have hf : ∀ n, (Array.replicate ops.size false).getD n false = false := by
    intro n
    by_cases h : n < ops.size <;> simp [Array.getD, h]
  have hnone : putAll ops (fun _ => undef) (fun i => (Array.replicate ops.size false).getD i false) a ops.size = a := by
    have : ∀ n, putAll ops (fun _ => undef) (fun i => (Array.replicate ops.size false).getD i false) a n = a := by
      intro n
      induction n with
      | zero => rfl
      | succ n ih =>
        have hfn := hf n
        simp only [putAll, hfn, Bool.false_eq_true, if_false]; exact ih
    exact this _
  have := wpAny_inv9 hd hng J a hsz hext (fun i o hio => by have := EachOp.get hstep i o (by simpa using hio); rw [Nat.zero_add] at this; exact hto i o this) hdone (edges_onB hb)
    (fun listed' h1 h2 i hi => all_listedB hb h1 h2 (i + 1) i (by omega) hi) ops.size (Array.replicate ops.size false) (fun _ => undef) w.drew (by simp) (by
    have := List.length_filter_le (fun i => !(Array.replicate ops.size false).getD i true) (List.range ops.size)
    simpa using this) (hext _ _ _ _ (fun i _ => (hf i).symm) h0)
  rw [hnone] at this
  exact this
/-- What an operation must do. -/
def StepKJ9 (P : Program) (ops : Array Oper) (K : Nat → Value) (J : (Nat → Bool) → World → Prop) (a0 : Act) (i : Nat) (o : Oper) : Prop :=
  (∀ (g : Nat) (b : Bool), o.guard = some (g, b) → ∃ b', K g = .bool b' ∧ (b' ≠ b → K i = undef ∧ ∀ l w', l i = false → (∀ j, (depsOf o).contains j = true → l j = true) → J l w' → J (doneL l i) w')) ∧
  ∀ l w', l i = false → (∀ j, (depsOf o).contains j = true → l j = true) → J l w' → (∀ (g : Nat) (b : Bool), o.guard = some (g, b) → K g = .bool b) →
    ∀ (ρ : Operand → Value), (∀ v, ρ (.const v) = v) → (∀ g, ρ (.global g) = .pointer (some ⟨g, 0, none⟩)) → (∀ f, ρ (.func f) = .func (.func f) #[] #[]) →
      (∀ j d, (depsOf o).contains j = true → dstOf ops j = some d → ρ (.tmp d) = K j) → (∀ d, (∀ j, dstOf ops j = some d → l j = false) → ρ (.tmp d) = a0.eval (.tmp d)) →
      OpY P o ρ w' fun v w'' => (o.dst = none ∨ v = K i) ∧ J (doneL l i) w''
theorem wp_region_knownJ9 {id : Nat} {a aF : Act} {w : World} (K : Nat → Value) (J : (Nat → Bool) → World → Prop) (hF : putAll ops K (fun _ => true) a ops.size = aF) (hm : P.follows .mixedOrders = true) (hd : dstsApart ops = true) (hb : edgesBackB ops = true) (hng : guardsOk ops = true)
    (hsz : (List.range ops.size).all (fun i => match dstOf ops i with | some d => decide (d < a.tmps.size) | none => true) = true)
    (hext : ∀ (l l' : Nat → Bool) w, (∀ i, i < ops.size → l i = l' i) → J l w → J l' w)
    (h0 : J (fun _ => false) w.drew)
    (hstep : EachOp (fun i o => StepKJ9 P ops K J a i o) 0 ops.toList)
    (hdone : ∀ w', J (fun _ => true) w' → Q .normal aF w') :
    (Code.region id ops true).wp P Q a w := by
  subst hF
  have hall : ∀ (l : List Oper) (n : Nat), (∀ k o, l[k]? = some o → ops[n + k]? = some o) → EachOp (fun i o => StepKJ9 P ops K J a i o) n l → EachOp (fun i o => ops[i]? = some o ∧ StepKJ9 P ops K J a i o) n l := by
    intro l
    induction l with
    | nil => intro n _ _; trivial
    | cons x l ih =>
      intro n hk h
      refine ⟨⟨by simpa using hk 0 x rfl, h.1⟩, ih (n + 1) (fun k o ho => ?_) h.2⟩
      have := hk (k + 1) o (by simpa using ho)
      have e : n + 1 + k = n + (k + 1) := by omega
      rw [e]; exact this
  refine wp_region_invW9 (F := fun i o => ops[i]? = some o ∧ StepKJ9 P ops K J a i o) (fun l v w => J l w ∧ ∀ j d, l j = true → dstOf ops j = some d → v j = K j) hm hd hb hng hsz
    (fun l l' v w h hJ => ⟨hext l l' w h hJ.1, fun j d hj hjd => hJ.2 j d ?_ hjd⟩) ⟨h0, fun j d h => by cases h⟩ ?_ (hall ops.toList 0 (fun k o h => by simpa using h) hstep) ?_
  · have hjs : j < ops.size := by
      rcases Nat.lt_or_ge j ops.size with h | h
      · exact h
      · unfold dstOf at hjd; rw [Array.getElem?_eq_none h] at hjd; simp at hjd
    rw [h j hjs]; exact hj
  · rintro i o ⟨hio, hgk, hst⟩
    intro l v w' hl hdp hJ
    obtain ⟨hG, hv⟩ := hJ
    have hdo : dstOf ops i = o.dst := by unfold dstOf; rw [hio]; rfl
    have hnx : ∀ x, (o.dst = none ∨ x = K i) → ∀ j d, doneL l i j = true → dstOf ops j = some d → doneV v i x j = K j := by
      intro x hx j d hj hjd
      unfold doneL at hj
      unfold doneV
      by_cases hji : j = i
      · subst hji
        rw [if_pos rfl]
        rcases hx with hx | hx
        · rw [hdo, hx] at hjd; cases hjd
        · exact hx
      · rw [if_neg hji] at hj ⊢
        exact hv j d hj hjd
    have hgv : ∀ g b, o.guard = some (g, b) → v g = K g := by
      intro g b hg
      have h1 := Array.all_eq_true_iff_forall_mem.1 hng o (Array.mem_of_getElem? hio)
      rw [hg] at h1
      simp only [Bool.and_eq_true, decide_eq_true_eq, Option.isSome_iff_exists] at h1
      obtain ⟨⟨h3, -⟩, d, hd'⟩ := h1
      exact hv g d (hdp g h3) hd'
    refine ⟨fun g b hg => ?_, fun hg a' hs hr hf K2 Qp hK => ?_⟩
    · obtain ⟨b', hb1, hb2⟩ := hgk g b hg
      exact ⟨b', (hgv g b hg).trans hb1, fun hne => ⟨(hb2 hne).2 l w' hl hdp hG, hnx undef (Or.inr (hb2 hne).1.symm)⟩⟩
    · refine OpY.wp ((hst l w' hl hdp hG (fun g b h => (hgv g b h).symm.trans (hg g b h)) a'.eval (fun _ => rfl) (fun _ => rfl) (fun _ => rfl) (fun j d hj hjd => ?_) hf).mono fun x w'' h => hK x w'' ⟨h.2, hnx x h.1⟩)
      rw [hr j d hj hjd]
      exact hv j d (hdp j hj) hjd
  · intro v w' h
    rw [putAll_congr_dst (vals' := K) ops.size (fun i d hi hid => h.2 i d rfl hid)]
    exact hdone w' h.1
end
end Go.Proofs.YtokkafiphchejaaDoor
