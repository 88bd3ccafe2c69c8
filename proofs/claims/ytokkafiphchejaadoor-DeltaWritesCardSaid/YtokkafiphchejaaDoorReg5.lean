/-
  A region that draws its order, by an invariant over what has been done: each operation is met once, without a frame, whichever others are done. Guards may let pass or not. Said of any program. Nothing of the program.
-/
import Derived.Test.YtokkafiphchejaaDoorReg4
namespace Go.Proofs.YtokkafiphchejaaDoor
set_option linter.unusedVariables false
open Go
section
variable {P : Program} {ops : Array Oper} {Q : Exit → Act → World → Prop}
/-- What binds stands ahead. -/
def edgesBackB (ops : Array Oper) : Bool := (List.range ops.size).all (fun i => match ops[i]? with | some o => o.after.all fun e => !Region.binds .any e || decide (e.on < i) | none => true) && ops.all (fun o => o.after.all fun e => decide (e.on < ops.size))
theorem all_listedB (h : edgesBackB ops = true) {listed : Array Bool} (hls : listed.size = ops.size) (hr : Region.ready .any ops listed = []) : ∀ n i, i < n → i < ops.size → listed.getD i false = true := by
  unfold edgesBackB at h
  rw [Bool.and_eq_true] at h
  obtain ⟨h, -⟩ := h
  intro n
  induction n with
  | zero => intro i hi; omega
  | succ n ih =>
    intro i hi his
    by_cases hin : i < n
    · exact ih i hin his
    obtain rfl : i = n := by omega
    cases hl : listed.getD i false with
    | true => rfl
    | false =>
      exfalso
      have hils : i < listed.size := by omega
      have hl' : listed.getD i true = false := by simp only [Array.getD, hils, dite_true] at hl ⊢; exact hl
      obtain ⟨o, ho⟩ : ∃ o, ops[i]? = some o := ⟨_, Array.getElem?_eq_getElem his⟩
      have he := List.all_eq_true.1 h i (List.mem_range.2 his)
      rw [ho] at he
      have hm : i ∈ Region.ready .any ops listed := by
        unfold Region.ready
        refine List.mem_filter.2 ⟨List.mem_range.2 his, ?_⟩
        rw [hl', ho]
        simp only [Bool.not_false, Option.map_some, Option.getD_some, Bool.true_and]
        refine Array.all_eq_true_iff_forall_mem.2 fun e hem => ?_
        have h1 := Array.all_eq_true_iff_forall_mem.1 he e hem
        cases hbe : Region.binds .any e with
        | false => rfl
        | true =>
          rw [hbe] at h1
          simp only [Bool.not_true, Bool.false_or, decide_eq_true_eq] at h1
          rw [ih e.on (by omega) (by omega), Bool.or_true]
      rw [hr] at hm
      cases hm
theorem edges_onB (h : edgesBackB ops = true) : ops.all (fun o => o.after.all fun e => decide (e.on < ops.size)) = true := by
  unfold edgesBackB at h
  rw [Bool.and_eq_true] at h
  exact h.2
/-- One operation more is done. -/
def doneL (listed : Nat → Bool) (i : Nat) : Nat → Bool := fun k => if k = i then true else listed k
/-- Its value is kept. -/
def doneV (vals : Nat → Value) (i : Nat) (v : Value) : Nat → Value := fun k => if k = i then v else vals k
/-- What an operation must do, those that it waits for being done. -/
def StepJ (P : Program) (ops : Array Oper) (J : (Nat → Bool) → (Nat → Value) → World → Prop) (a0 : Act) (i : Nat) (o : Oper) : Prop :=
  ∀ (listed : Nat → Bool) (vals : Nat → Value) (w' : World), listed i = false → (∀ j, (depsOf o).contains j = true → listed j = true) → J listed vals w' →
    (∀ (g : Nat) (b : Bool), o.guard = some (g, b) → ∃ b', vals g = .bool b' ∧ (b' ≠ b → J (doneL listed i) (doneV vals i undef) w')) ∧
    ((∀ (g : Nat) (b : Bool), o.guard = some (g, b) → vals g = .bool b) →
      ∀ (ρ : Operand → Value), (∀ v, ρ (.const v) = v) → (∀ g, ρ (.global g) = .pointer (some ⟨g, 0, none⟩)) → (∀ f, ρ (.func f) = .func (.func f) #[] #[]) →
        (∀ j d, (depsOf o).contains j = true → dstOf ops j = some d → ρ (.tmp d) = vals j) → (∀ d, farOf ops d = true → ρ (.tmp d) = a0.eval (.tmp d)) →
        OpY P o ρ w' fun v w'' => J (doneL listed i) (doneV vals i v) w'')
theorem putAll_congr_dst {vals vals' : Nat → Value} {a : Act} : ∀ (n : Nat), (∀ i d, i < n → dstOf ops i = some d → vals i = vals' i) → putAll ops vals (fun _ => true) a n = putAll ops vals' (fun _ => true) a n
  | 0, _ => rfl
  | n + 1, h => by
    have ih := putAll_congr_dst (a := a) n (fun i d hi hd => h i d (by omega) hd)
    simp only [putAll, if_true, ih]
    cases hd : dstOf ops n with
    | none => rfl
    | some d => rw [h n d (by omega) hd]
/-- The same, over a frame. -/
def StepW (P : Program) (ops : Array Oper) (J : (Nat → Bool) → (Nat → Value) → World → Prop) (a0 : Act) (i : Nat) (o : Oper) : Prop :=
  ∀ (listed : Nat → Bool) (vals : Nat → Value) (w' : World), listed i = false → (∀ j, (depsOf o).contains j = true → listed j = true) → J listed vals w' →
    (∀ (g : Nat) (b : Bool), o.guard = some (g, b) → ∃ b', vals g = .bool b' ∧ (b' ≠ b → J (doneL listed i) (doneV vals i undef) w')) ∧
    ((∀ (g : Nat) (b : Bool), o.guard = some (g, b) → vals g = .bool b) →
      ∀ (a' : Act), a'.tmps.size = a0.tmps.size → (∀ j d, (depsOf o).contains j = true → dstOf ops j = some d → a'.eval (.tmp d) = vals j) → (∀ d, farOf ops d = true → a'.eval (.tmp d) = a0.eval (.tmp d)) →
        ∀ (K : Act → World → Prop) (Qp : Exit → Act → World → Prop), (∀ v w'', J (doneL listed i) (doneV vals i v) w'' → K (a'.put o.dst v) w'') → o.wp P a' w' K Qp)
theorem StepJ.toW {J : (Nat → Bool) → (Nat → Value) → World → Prop} {a0 : Act} {i : Nat} {o : Oper} (h : StepJ P ops J a0 i o) : StepW P ops J a0 i o := by
  intro listed vals w' hl hdp hJ
  obtain ⟨h1, h2⟩ := h listed vals w' hl hdp hJ
  refine ⟨h1, fun hg a' hs hr hf K Qp hK => ?_⟩
  exact OpY.wp ((h2 hg a'.eval (fun _ => rfl) (fun _ => rfl) (fun _ => rfl) hr hf).mono fun v w'' hv => hK v w'' hv)
theorem wpAny_inv (hd : dstsApart ops = true) (hng : guardsOk ops = true) (J : (Nat → Bool) → (Nat → Value) → World → Prop) (a0 : Act)
    (hsz : (List.range ops.size).all (fun i => match dstOf ops i with | some d => decide (d < a0.tmps.size) | none => true) = true)
    (hext : ∀ (l l' : Nat → Bool) (v : Nat → Value) w, (∀ i, i < ops.size → l i = l' i) → J l v w → J l' v w)
    (hstep : ∀ i o, ops[i]? = some o → StepW P ops J a0 i o)
    (hdone : ∀ (vals : Nat → Value) w', J (fun _ => true) vals w' → Q .normal (putAll ops vals (fun _ => true) a0 ops.size) w')
    (hon : ops.all (fun o => o.after.all fun e => decide (e.on < ops.size)) = true)
    (hready : ∀ listed : Array Bool, listed.size = ops.size → Region.ready .any ops listed = [] → ∀ i, i < ops.size → listed.getD i false = true) :
    ∀ (fuel : Nat) (listed : Array Bool) (vals : Nat → Value) (w : World), listed.size = ops.size → ((List.range ops.size).filter fun i => !listed.getD i true).length ≤ fuel → J (fun i => listed.getD i false) vals w →
      wpAny P .any ops Q fuel listed (putAll ops vals (fun i => listed.getD i false) a0 ops.size) w := by
  intro fuel
  induction fuel with
  | zero =>
    intro listed vals w hls hf hJ
    have hdn : ∀ i, i < ops.size → listed.getD i false = true := by
      intro i hi
      cases h : listed.getD i false with
      | true => rfl
      | false =>
        have hi' : i < listed.size := by omega
        have h2 : listed.getD i true = false := by simp only [Array.getD, hi', dite_true] at h ⊢; exact h
        have hm : i ∈ (List.range ops.size).filter fun i => !listed.getD i true := List.mem_filter.2 ⟨List.mem_range.2 hi, by simp [h2]⟩
        have : 0 < ((List.range ops.size).filter fun i => !listed.getD i true).length := List.length_pos_of_mem hm
        omega
    have hr : Region.ready .any ops listed = [] := by
      unfold Region.ready
      rw [List.filter_eq_nil_iff]
      intro i hi
      have hi' := List.mem_range.1 hi
      have h1 := hdn i hi'
      have h2 : listed.getD i true = true := by
        have : i < listed.size := by omega
        simp only [Array.getD, this, dite_true] at h1 ⊢; exact h1
      simp [h2]
    refine ⟨hr, ?_⟩
    rw [putAll_congr (vals' := vals) (listed' := fun _ => true) ops.size (fun i hi => ⟨hdn i hi, fun _ => rfl⟩)]
    exact hdone vals w (hext _ _ _ _ (fun i hi => hdn i hi) hJ)
  | succ fuel ih =>
    intro listed vals w hls hf hJ
    refine ⟨fun hr => ?_, fun i hi => ?_⟩
    · have hdn := hready listed hls hr
      rw [putAll_congr (vals' := vals) (listed' := fun _ => true) ops.size (fun i hi => ⟨hdn i hi, fun _ => rfl⟩)]
      exact hdone vals w (hext _ _ _ _ (fun i hi => hdn i hi) hJ)
    · unfold Region.ready at hi
      rw [List.mem_filter, List.mem_range] at hi
      obtain ⟨his, hi2⟩ := hi
      simp only [Bool.and_eq_true, Bool.not_eq_true'] at hi2
      obtain ⟨hil, hi3⟩ := hi2
      obtain ⟨o, ho⟩ : ∃ o, ops[i]? = some o := ⟨_, Array.getElem?_eq_getElem his⟩
      rw [ho] at hi3
      simp only [Option.map_some, Option.getD_some] at hi3
      have hil' : listed.getD i false = false := by
        have : i < listed.size := by omega
        simp only [Array.getD, this, dite_true] at hil ⊢; exact hil
      have hson := Array.all_eq_true_iff_forall_mem.1 hon o (Array.mem_of_getElem? ho)
      have hdeps : ∀ j, (depsOf o).contains j = true → listed.getD j false = true ∧ j < ops.size := by
        intro j hj
        unfold depsOf at hj
        rw [List.contains_iff_mem, List.mem_map] at hj
        obtain ⟨e, he, rfl⟩ := hj
        obtain ⟨he1, he2⟩ := List.mem_filter.1 he
        have h1 := Array.all_eq_true_iff_forall_mem.1 hi3 e (by simpa using he1)
        rw [he2] at h1
        simp only [Bool.not_true, Bool.false_or] at h1
        have := Array.all_eq_true_iff_forall_mem.1 hson e (by simpa using he1)
        exact ⟨h1, by simpa using this⟩
      have hreads : ∀ j d, (depsOf o).contains j = true → dstOf ops j = some d → (putAll ops vals (fun i => listed.getD i false) a0 ops.size).eval (.tmp d) = vals j := by
        intro j d hj hjd
        obtain ⟨h1, h2⟩ := hdeps j hj
        have hds : d < a0.tmps.size := by
          have := List.all_eq_true.1 hsz j (List.mem_range.2 h2)
          rw [hjd] at this
          simpa using this
        exact putAll_eval_at hd hjd h1 hds ops.size h2 (Nat.le_refl _)
      obtain ⟨hs1, hs2⟩ := hstep i o ho _ vals w hil' (fun j hj => (hdeps j hj).1) hJ
      have hgy : ∀ g b, o.guard = some (g, b) → ∀ b', vals g = .bool b' → yielded ops (putAll ops vals (fun i => listed.getD i false) a0 ops.size).tmps g = some b' := by
        intro g b hg b' hv
        have h1 := Array.all_eq_true_iff_forall_mem.1 hng o (Array.mem_of_getElem? ho)
        rw [hg] at h1
        simp only [Bool.and_eq_true, decide_eq_true_eq, Option.isSome_iff_exists] at h1
        obtain ⟨⟨h3, hgs⟩, d, hd'⟩ := h1
        have hds : d < a0.tmps.size := by
          have := List.all_eq_true.1 hsz g (List.mem_range.2 hgs)
          rw [hd'] at this
          simpa using this
        exact yielded_is hd' (by rw [putAll_size]; exact hds) ((hreads g d h3 hd').trans hv)
      have hnext : ∀ v w'', J (doneL (fun i => listed.getD i false) i) (doneV vals i v) w'' →
          wpAny P .any ops Q fuel (listed.setIfInBounds i true) ((putAll ops vals (fun i => listed.getD i false) a0 ops.size).put o.dst v) w'' := by
        intro v w'' hJ'
        have hdo : o.dst = dstOf ops i := by unfold dstOf; rw [ho]; rfl
        rw [hdo, putAll_put hd hil' ops.size his (Nat.le_refl _)]
        have hcg : putAll ops (fun k => if k = i then v else vals k) (fun k => if k = i then true else listed.getD k false) a0 ops.size = putAll ops (fun k => if k = i then v else vals k) (fun k => (listed.setIfInBounds i true).getD k false) a0 ops.size :=
          putAll_congr ops.size (fun k hk => ⟨by rw [setIf_getD (by omega)], fun _ => rfl⟩)
        rw [hcg]
        refine ih (listed.setIfInBounds i true) _ w'' (by simpa using hls) ?_ ?_
        · have hsub : ((List.range ops.size).filter fun k => !(listed.setIfInBounds i true).getD k true).length < ((List.range ops.size).filter fun k => !listed.getD k true).length := by
            have e1 : ((List.range ops.size).filter fun k => !(listed.setIfInBounds i true).getD k true) = ((List.range ops.size).filter fun k => !listed.getD k true).filter fun k => decide (k ≠ i) := by
              rw [List.filter_filter]
              apply List.filter_congr
              intro k hk
              rw [setIf_getD (by omega)]
              by_cases hki : k = i <;> simp [hki]
            rw [e1]
            refine List.length_filter_lt_length_iff_exists.2 ⟨i, List.mem_filter.2 ⟨List.mem_range.2 his, by simp [hil]⟩, by simp⟩
          omega
        · refine hext _ _ _ _ (fun k hk => ?_) hJ'
          rw [setIf_getD (by omega)]
          rfl
      unfold wpOp
      simp only [ho]
      split
      · rename_i hw
        left
        refine hs2 ?_ _ (putAll_size _) hreads (fun d hfar => ?_) _ _ hnext
        · intro g b hg
          obtain ⟨b', hv, -⟩ := hs1 g b hg
          have := hgy g b hg b' hv
          unfold Region.wanted at hw
          rw [hg] at hw
          simp only [this] at hw
          rw [hv]
          simp at hw
          rw [hw]
        · refine putAll_eval_far ops.size (fun j hj => ?_)
          unfold farOf at hfar
          have := List.all_eq_true.1 hfar j (List.mem_range.2 hj)
          simpa using this
      · rename_i hw
        refine hnext _ _ ?_
        unfold Region.wanted at hw
        cases hg : o.guard with
        | none => rw [hg] at hw; simp at hw
        | some gb =>
          obtain ⟨g, b⟩ := gb
          obtain ⟨b', hv, hu⟩ := hs1 g b hg
          rw [hg] at hw
          simp only [hgy g b hg b' hv] at hw
          exact hu (by simpa using hw)
/-- A region that draws its order, by an invariant. -/
theorem wp_region_invW {F : Nat → Oper → Prop} {id : Nat} {a : Act} {w : World} (J : (Nat → Bool) → (Nat → Value) → World → Prop) (hm : P.follows .mixedOrders = true) (hd : dstsApart ops = true) (hb : edgesBackB ops = true) (hng : guardsOk ops = true)
    (hsz : (List.range ops.size).all (fun i => match dstOf ops i with | some d => decide (d < a.tmps.size) | none => true) = true)
    (hext : ∀ (l l' : Nat → Bool) (v : Nat → Value) w, (∀ i, i < ops.size → l i = l' i) → J l v w → J l' v w)
    (h0 : J (fun _ => false) (fun _ => undef) w.drew)
    (hto : ∀ i o, F i o → StepW P ops J a i o)
    (hstep : EachOp F 0 ops.toList)
    (hdone : ∀ (vals : Nat → Value) w', J (fun _ => true) vals w' → Q .normal (putAll ops vals (fun _ => true) a ops.size) w') :
    (Code.region id ops true).wp P Q a w := by
  refine wp_region_any hm ?_
  have hf : ∀ n, (Array.replicate ops.size false).getD n false = false := by
    intro n
    by_cases h : n < ops.size <;> simp [Array.getD, h]
  have hnone : putAll ops (fun _ => undef) (fun i => (Array.replicate ops.size false).getD i false) a ops.size = a := by
    have : ∀ n, putAll ops (fun _ => undef) (fun i => (Array.replicate ops.size false).getD i false) a n = a := by
      intro n
      induction n with
      | zero => rfl
      | succ n ih =>
        have hfn := hf n
        simp only [putAll, hfn, Bool.false_eq_true, if_false]; exact ih
    exact this _
  have := wpAny_inv hd hng J a hsz hext (fun i o hio => by have := EachOp.get hstep i o (by simpa using hio); rw [Nat.zero_add] at this; exact hto i o this) hdone (edges_onB hb)
    (fun listed' h1 h2 i hi => all_listedB hb h1 h2 (i + 1) i (by omega) hi) ops.size (Array.replicate ops.size false) (fun _ => undef) w.drew (by simp) (by
    have := List.length_filter_le (fun i => !(Array.replicate ops.size false).getD i true) (List.range ops.size)
    simpa using this) (hext _ _ _ _ (fun i _ => (hf i).symm) h0)
  rw [hnone] at this
  exact this
/-- The same, the frame behind all operations written out, by what they yield. -/
theorem wp_region_inv' {id : Nat} {a : Act} {aF : (Nat → Value) → Act} {w : World} (J : (Nat → Bool) → (Nat → Value) → World → Prop) (hF : ∀ vals, putAll ops vals (fun _ => true) a ops.size = aF vals) (hm : P.follows .mixedOrders = true) (hd : dstsApart ops = true) (hb : edgesBackB ops = true) (hng : guardsOk ops = true)
    (hsz : (List.range ops.size).all (fun i => match dstOf ops i with | some d => decide (d < a.tmps.size) | none => true) = true)
    (hext : ∀ (l l' : Nat → Bool) (v : Nat → Value) w, (∀ i, i < ops.size → l i = l' i) → J l v w → J l' v w)
    (h0 : J (fun _ => false) (fun _ => undef) w.drew)
    (hstep : EachOp (fun i o => StepJ P ops J a i o) 0 ops.toList)
    (hdone : ∀ (vals : Nat → Value) w', J (fun _ => true) vals w' → Q .normal (aF vals) w') :
    (Code.region id ops true).wp P Q a w :=
  wp_region_invW J hm hd hb hng hsz hext h0 (fun _ _ h => h.toW) hstep fun vals w' h => by rw [hF]; exact hdone vals w' h
/-- A region that draws its order, whose operations' values are known ahead, by an invariant over what has been done. -/
theorem wp_region_valsJ {id : Nat} {a aF : Act} {w : World} (vals : List Value) (J : (Nat → Bool) → World → Prop) (hF : putAll ops (fun i => vals.getD i undef) (fun _ => true) a ops.size = aF) (hm : P.follows .mixedOrders = true) (hd : dstsApart ops = true) (hb : edgesBackB ops = true) (hdep : depsOk ops = true) (hsel : Region.noSelect ops = true) (hng : guardsOk ops = true)
    (hgv : ops.all (fun o => match o.guard with | some (g, _) => (match vals.getD g undef with | .bool _ => true | _ => false) | none => true) = true)
    (hsz : (List.range ops.size).all (fun i => match dstOf ops i with | some d => decide (d < a.tmps.size) | none => true) = true)
    (hext : ∀ (l l' : Nat → Bool) w, (∀ i, i < ops.size → l i = l' i) → J l w → J l' w)
    (h0 : J (fun _ => false) w.drew)
    (hstep : EachOp (fun i o => ∀ l w', l i = false → (∀ j, (depsOf o).contains j = true → l j = true) → J l w' →
      if Region.wanted o (yielded ops aF.tmps) = true then OpAt P o aF (vals.getD i undef) (J (doneL l i)) w' else vals.getD i undef = undef ∧ J (doneL l i) w') 0 ops.toList)
    (hdone : ∀ w', J (fun _ => true) w' → Q .normal aF w') :
    (Code.region id ops true).wp P Q a w := by
  subst hF
  refine wp_region_invW (F := fun i o => ops[i]? = some o ∧ ∀ l w', l i = false → (∀ j, (depsOf o).contains j = true → l j = true) → J l w' →
      if Region.wanted o (yielded ops (putAll ops (fun i => vals.getD i undef) (fun _ => true) a ops.size).tmps) = true then OpAt P o (putAll ops (fun i => vals.getD i undef) (fun _ => true) a ops.size) (vals.getD i undef) (J (doneL l i)) w' else vals.getD i undef = undef ∧ J (doneL l i) w')
    (fun l v w => J l w ∧ ∀ j d, l j = true → dstOf ops j = some d → v j = vals.getD j undef) hm hd hb hng hsz (fun l l' v w h hJ => ⟨hext l l' w h hJ.1, fun j d hj hjd => hJ.2 j d ?_ hjd⟩) ⟨h0, fun j d h => by cases h⟩ ?_ ?_ ?_
  · have hjs : j < ops.size := by
      rcases Nat.lt_or_ge j ops.size with h | h
      · exact h
      · unfold dstOf at hjd; rw [Array.getElem?_eq_none h] at hjd; simp at hjd
    rw [h j hjs]; exact hj
  · rintro i o ⟨hio, hst⟩ listed v w' hl hdp ⟨hJ, hv⟩
    have his : i < ops.size := (Array.getElem?_eq_some_iff.1 hio).1
    have hdo : dstOf ops i = o.dst := by unfold dstOf; rw [hio]; rfl
    have hdep1 := List.all_eq_true.1 hdep i (List.mem_range.2 his)
    rw [hio] at hdep1
    simp only at hdep1
    have hst := hst listed w' hl hdp hJ
    have hdone : ∀ x, (o.dst = none ∨ x = vals.getD i undef) → ∀ j d, doneL listed i j = true → dstOf ops j = some d → doneV v i x j = vals.getD j undef := by
      intro x hx j d hj hjd
      unfold doneL at hj
      unfold doneV
      by_cases hji : j = i
      · subst hji
        rw [if_pos rfl]
        rcases hx with hx | hx
        · rw [hdo, hx] at hjd; cases hjd
        · exact hx
      · rw [if_neg hji] at hj ⊢
        exact hv j d hj hjd
    have hgb : ∀ g b, o.guard = some (g, b) → ∃ b' d, vals.getD g undef = .bool b' ∧ dstOf ops g = some d ∧ d < a.tmps.size ∧ (depsOf o).contains g = true := by
      intro g b hg
      have h1 := Array.all_eq_true_iff_forall_mem.1 hng o (Array.mem_of_getElem? hio)
      have h2 := Array.all_eq_true_iff_forall_mem.1 hgv o (Array.mem_of_getElem? hio)
      rw [hg] at h1 h2
      simp only [Bool.and_eq_true, decide_eq_true_eq, Option.isSome_iff_exists] at h1
      obtain ⟨⟨h3, hgs⟩, d, hd'⟩ := h1
      have hds : d < a.tmps.size := by
        have := List.all_eq_true.1 hsz g (List.mem_range.2 hgs)
        rw [hd'] at this
        simpa using this
      simp only at h2
      split at h2
      · rename_i b' hb'
        exact ⟨b', d, hb', hd', hds, h3⟩
      · cases h2
    have hgs : ∀ g, (∃ b, o.guard = some (g, b)) → g < ops.size := by
      rintro g ⟨b, hg⟩
      have h1 := Array.all_eq_true_iff_forall_mem.1 hng o (Array.mem_of_getElem? hio)
      rw [hg] at h1
      simp only [Bool.and_eq_true, decide_eq_true_eq] at h1
      exact h1.1.2
    have hwv : Region.wanted o (yielded ops (putAll ops (fun i => vals.getD i undef) (fun _ => true) a ops.size).tmps) = true ↔ ∀ g b, o.guard = some (g, b) → vals.getD g undef = .bool b := by
      unfold Region.wanted
      cases hg : o.guard with
      | none => simp
      | some gb =>
        obtain ⟨g, b⟩ := gb
        obtain ⟨b', d, h1, h2, h3, h4⟩ := hgb g b hg
        have hy := yielded_is (a' := putAll ops (fun i => vals.getD i undef) (fun _ => true) a ops.size) (b := b') h2 (by rw [putAll_size]; exact h3) ((putAll_eval_at hd h2 rfl h3 ops.size (hgs g ⟨b, hg⟩) (Nat.le_refl _)).trans h1)
        simp only [hy]
        constructor
        · intro h g' b2 h'
          obtain ⟨rfl, rfl⟩ := Prod.mk.inj (Option.some.inj h')
          rw [h1]
          simp at h
          rw [h]
        · intro h
          have := (h g b rfl).symm.trans h1
          injection this with this
          simp [this]
    refine ⟨fun g b hg => ?_, fun hgt a' hs hr hf K Qp hK => ?_⟩
    · obtain ⟨b', d, h1, h2, h3, h4⟩ := hgb g b hg
      refine ⟨b', (hv g d (hdp g h4) h2).trans h1, fun hne => ?_⟩
      have hwf : ¬ Region.wanted o (yielded ops (putAll ops (fun i => vals.getD i undef) (fun _ => true) a ops.size).tmps) = true := by
        rw [hwv]
        intro h
        have := h1.symm.trans (h g b hg)
        injection this with this
        exact hne this
      rw [if_neg hwf] at hst
      exact ⟨hst.2, hdone undef (Or.inr hst.1.symm)⟩
    · have hwt : Region.wanted o (yielded ops (putAll ops (fun i => vals.getD i undef) (fun _ => true) a ops.size).tmps) = true := by
        rw [hwv]
        intro g b hg
        obtain ⟨b', d, h1, h2, h3, h4⟩ := hgb g b hg
        rw [← hv g d (hdp g h4) h2]
        exact hgt g b hg
      rw [if_pos hwt] at hst
      have look : ∀ t, t ∈ o.looksAt ops → a'.eval (.tmp t) = (putAll ops (fun i => vals.getD i undef) (fun _ => true) a ops.size).eval (.tmp t) := by
        intro t ht
        have h1 := List.all_eq_true.1 hdep1 t ht
        by_cases hx : ∃ j, j < ops.size ∧ dstOf ops j = some t
        · obtain ⟨j, hj, hjt⟩ := hx
          have h2 := List.all_eq_true.1 h1 j (List.mem_range.2 hj)
          rw [hjt] at h2
          simp only [bne_self_eq_false, Bool.false_or] at h2
          have hjd : (depsOf o).contains j = true := by
            obtain ⟨e, he, hbe⟩ := List.any_eq_true.1 h2
            simp only [Bool.and_eq_true, beq_iff_eq] at hbe
            unfold depsOf
            rw [List.contains_iff_mem, List.mem_map]
            exact ⟨e, List.mem_filter.2 ⟨he, hbe.1⟩, hbe.2⟩
          have hts : t < a.tmps.size := by
            have := List.all_eq_true.1 hsz j (List.mem_range.2 hj)
            rw [hjt] at this
            simpa using this
          rw [hr j t hjd hjt, hv j t (hdp j hjd) hjt, putAll_eval_at hd hjt rfl hts ops.size hj (Nat.le_refl _)]
        · have hall : farOf ops t = true := by
            refine List.all_eq_true.2 fun j hj => ?_
            rw [bne_iff_ne]
            exact fun e => hx ⟨j, List.mem_range.1 hj, e⟩
          rw [hf t hall, putAll_eval_far ops.size (fun j hj e => hx ⟨j, hj, e⟩)]
      have hexec : execOp a'.eval o = execOp (putAll ops (fun i => vals.getD i undef) (fun _ => true) a ops.size).eval o := by
        refine execOp_congr o (Region.noSelect_spec hsel i o · · hio) fun x hx => ?_
        cases x with
        | tmp t => exact look t (List.mem_append_left _ (List.mem_filterMap.2 ⟨.tmp t, by simpa using hx, rfl⟩))
        | const c => rfl
        | global g => rfl
        | func f => rfl
      unfold Oper.wp
      rw [hexec]
      refine upon_transfer' (aL := putAll ops (fun i => vals.getD i undef) (fun _ => true) a ops.size) (R := fun x w'' => (o.dst = none ∨ x = vals.getD i undef) ∧ J (doneL listed i) w'') ?_ ?_ fun x w'' h => hK _ _ ⟨h.2, hdone x h.1⟩
      · intro d hdd
        rw [putAll_size]
        have := List.all_eq_true.1 hsz i (List.mem_range.2 his)
        rw [hdo, hdd] at this
        simpa using this
      · exact hst _ _ fun w'' h => ⟨_, rfl, Or.inr rfl, h⟩
  · have : ∀ (l : List Oper) (n : Nat), (∀ k o, l[k]? = some o → ops[n + k]? = some o) → EachOp (fun i o => ∀ l w', l i = false → (∀ j, (depsOf o).contains j = true → l j = true) → J l w' →
        if Region.wanted o (yielded ops (putAll ops (fun i => vals.getD i undef) (fun _ => true) a ops.size).tmps) = true then OpAt P o (putAll ops (fun i => vals.getD i undef) (fun _ => true) a ops.size) (vals.getD i undef) (J (doneL l i)) w' else vals.getD i undef = undef ∧ J (doneL l i) w') n l → EachOp (fun i o => ops[i]? = some o ∧ ∀ l w', l i = false → (∀ j, (depsOf o).contains j = true → l j = true) → J l w' →
        if Region.wanted o (yielded ops (putAll ops (fun i => vals.getD i undef) (fun _ => true) a ops.size).tmps) = true then OpAt P o (putAll ops (fun i => vals.getD i undef) (fun _ => true) a ops.size) (vals.getD i undef) (J (doneL l i)) w' else vals.getD i undef = undef ∧ J (doneL l i) w') n l := by
      intro l
      induction l with
      | nil => intro n _ _; trivial
      | cons x l ih =>
        intro n hk h
        refine ⟨⟨by simpa using hk 0 x rfl, h.1⟩, ih (n + 1) (fun k o ho => ?_) h.2⟩
        have := hk (k + 1) o (by simpa using ho)
        have e : n + 1 + k = n + (k + 1) := by omega
        rw [e]; exact this
    exact this ops.toList 0 (fun k o h => by simpa using h) hstep
  · intro v w' h
    rw [putAll_congr_dst (vals' := fun i => vals.getD i undef) ops.size (fun i d hi hid => h.2 i d rfl hid)]
    exact hdone w' h.1
end
end Go.Proofs.YtokkafiphchejaaDoor
