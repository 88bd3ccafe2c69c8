/-
  Joined texts: Reg4 Reg5 Reg6 Reg7 Reg8 Reg9 RegT.
-/
import Derived.Test.YtcddlnmcjmhbcaaDoorReg3
/-
  A region whose guards all let pass, whether it draws its order or not, said operation by operation without a frame: what each operation yields out of what those yield that it waits for. Said of any program. Nothing of the program.
-/
namespace Go.Proofs.YtcddlnmcjmhbcaaDoor
set_option linter.unusedVariables false
open Go
section
variable {P : Program} {ops : Array Oper} {Q : Exit → Act → World → Prop}
/-- What an operation yields, its operands read by ρ. -/
def OpR (P : Program) (R : Value → World → Prop) : Result Next → Prop
  | .ok (.value v) w' => R v w'
  | .ok .skip w' => R undef w'
  | .ok (.enter f args) w' => Calls P f args w' fun e w'' => ∃ v, e = .returned v ∧ R v w''
  | _ => False
def OpY (P : Program) (o : Oper) (ρ : Operand → Value) (w : World) (R : Value → World → Prop) : Prop := OpR P R ((execOp ρ o).run P w)
theorem OpY.mono {o : Oper} {ρ : Operand → Value} {w : World} {R R' : Value → World → Prop} (h : OpY P o ρ w R) (k : ∀ v w', R v w' → R' v w') : OpY P o ρ w R' := by
  unfold OpY at *
  generalize (execOp ρ o).run P w = r at *
  unfold OpR at *
  split at h
  · exact k _ _ h
  · exact k _ _ h
  · refine Calls.mono h fun e w'' he => ?_
    obtain ⟨v, h1, h2⟩ := he
    exact ⟨v, h1, k _ _ h2⟩
  · exact h.elim
theorem OpY.wp {o : Oper} {a : Act} {w : World} {K : Act → World → Prop} (h : OpY P o a.eval w fun v w'' => K (a.put o.dst v) w'') : o.wp P a w K Q := by
  unfold Oper.wp
  unfold OpY at h
  generalize (execOp a.eval o).run P w = r at *
  unfold OpR at h
  split at h
  · exact h
  · exact h
  · simp only [Oper.upon]
    refine Calls.mono h fun e w'' he => ?_
    obtain ⟨v, rfl, h2⟩ := he
    exact h2
  · exact h.elim
/-- The slots that no operation writes. -/
def farOf (ops : Array Oper) (d : Tmp) : Bool := (List.range ops.size).all fun j => dstOf ops j != some d
end
end Go.Proofs.YtcddlnmcjmhbcaaDoor
/-
  A region that draws its order, by an invariant over what has been done: each operation is met once, without a frame, whichever others are done. Guards may let pass or not. Said of any program. Nothing of the program.
-/
namespace Go.Proofs.YtcddlnmcjmhbcaaDoor
set_option linter.unusedVariables false
open Go
section
variable {P : Program} {ops : Array Oper} {Q : Exit → Act → World → Prop}
/-- What binds stands ahead. -/
def edgesBackB (ops : Array Oper) : Bool := (List.range ops.size).all (fun i => match ops[i]? with | some o => o.after.all fun e => !Region.binds .any e || decide (e.on < i) | none => true) && ops.all (fun o => o.after.all fun e => decide (e.on < ops.size))
theorem all_listedB (h : edgesBackB ops = true) {listed : Array Bool} (hls : listed.size = ops.size) (hr : Region.ready .any ops listed = []) : ∀ n i, i < n → i < ops.size → listed.getD i false = true := by
  unfold edgesBackB at h
  rw [Bool.and_eq_true] at h
  obtain ⟨h, -⟩ := h
  intro n
  induction n with
  | zero => intro i hi; omega
  | succ n ih =>
    intro i hi his
    by_cases hin : i < n
    · exact ih i hin his
    obtain rfl : i = n := by omega
    cases hl : listed.getD i false with
    | true => rfl
    | false =>
      exfalso
      have hils : i < listed.size := by omega
      have hl' : listed.getD i true = false := by simp only [Array.getD, hils, dite_true] at hl ⊢; exact hl
      obtain ⟨o, ho⟩ : ∃ o, ops[i]? = some o := ⟨_, Array.getElem?_eq_getElem his⟩
      have he := List.all_eq_true.1 h i (List.mem_range.2 his)
      rw [ho] at he
      have hm : i ∈ Region.ready .any ops listed := by
        unfold Region.ready
        refine List.mem_filter.2 ⟨List.mem_range.2 his, ?_⟩
        rw [hl', ho]
        simp only [Bool.not_false, Option.map_some, Option.getD_some, Bool.true_and]
        refine Array.all_eq_true_iff_forall_mem.2 fun e hem => ?_
        have h1 := Array.all_eq_true_iff_forall_mem.1 he e hem
        cases hbe : Region.binds .any e with
        | false => rfl
        | true =>
          rw [hbe] at h1
          simp only [Bool.not_true, Bool.false_or, decide_eq_true_eq] at h1
          rw [ih e.on (by omega) (by omega), Bool.or_true]
      rw [hr] at hm
      cases hm
theorem edges_onB (h : edgesBackB ops = true) : ops.all (fun o => o.after.all fun e => decide (e.on < ops.size)) = true := by
  unfold edgesBackB at h
  rw [Bool.and_eq_true] at h
  exact h.2
/-- One operation more is done. -/
def doneL (listed : Nat → Bool) (i : Nat) : Nat → Bool := fun k => if k = i then true else listed k
/-- Its value is kept. -/
def doneV (vals : Nat → Value) (i : Nat) (v : Value) : Nat → Value := fun k => if k = i then v else vals k
/-- What an operation must do, those that it waits for being done. -/
def StepJ (P : Program) (ops : Array Oper) (J : (Nat → Bool) → (Nat → Value) → World → Prop) (a0 : Act) (i : Nat) (o : Oper) : Prop :=
  ∀ (listed : Nat → Bool) (vals : Nat → Value) (w' : World), listed i = false → (∀ j, (depsOf o).contains j = true → listed j = true) → J listed vals w' →
    (∀ (g : Nat) (b : Bool), o.guard = some (g, b) → ∃ b', vals g = .bool b' ∧ (b' ≠ b → J (doneL listed i) (doneV vals i undef) w')) ∧
    ((∀ (g : Nat) (b : Bool), o.guard = some (g, b) → vals g = .bool b) →
      ∀ (ρ : Operand → Value), (∀ v, ρ (.const v) = v) → (∀ g, ρ (.global g) = .pointer (some ⟨g, 0, none⟩)) → (∀ f, ρ (.func f) = .func (.func f) #[] #[]) →
        (∀ j d, (depsOf o).contains j = true → dstOf ops j = some d → ρ (.tmp d) = vals j) → (∀ d, farOf ops d = true → ρ (.tmp d) = a0.eval (.tmp d)) →
        OpY P o ρ w' fun v w'' => J (doneL listed i) (doneV vals i v) w'')
theorem putAll_congr_dst {vals vals' : Nat → Value} {a : Act} : ∀ (n : Nat), (∀ i d, i < n → dstOf ops i = some d → vals i = vals' i) → putAll ops vals (fun _ => true) a n = putAll ops vals' (fun _ => true) a n
  | 0, _ => rfl
  | n + 1, h => by
    have ih := putAll_congr_dst (a := a) n (fun i d hi hd => h i d (by omega) hd)
    simp only [putAll, if_true, ih]
    cases hd : dstOf ops n with
    | none => rfl
    | some d => rw [h n d (by omega) hd]
/-- The same, over a frame. -/
def StepW (P : Program) (ops : Array Oper) (J : (Nat → Bool) → (Nat → Value) → World → Prop) (a0 : Act) (i : Nat) (o : Oper) : Prop :=
  ∀ (listed : Nat → Bool) (vals : Nat → Value) (w' : World), listed i = false → (∀ j, (depsOf o).contains j = true → listed j = true) → J listed vals w' →
    (∀ (g : Nat) (b : Bool), o.guard = some (g, b) → ∃ b', vals g = .bool b' ∧ (b' ≠ b → J (doneL listed i) (doneV vals i undef) w')) ∧
    ((∀ (g : Nat) (b : Bool), o.guard = some (g, b) → vals g = .bool b) →
      ∀ (a' : Act), a'.tmps.size = a0.tmps.size → (∀ j d, (depsOf o).contains j = true → dstOf ops j = some d → a'.eval (.tmp d) = vals j) → (∀ d, farOf ops d = true → a'.eval (.tmp d) = a0.eval (.tmp d)) →
        ∀ (K : Act → World → Prop) (Qp : Exit → Act → World → Prop), (∀ v w'', J (doneL listed i) (doneV vals i v) w'' → K (a'.put o.dst v) w'') → o.wp P a' w' K Qp)
theorem StepJ.toW {J : (Nat → Bool) → (Nat → Value) → World → Prop} {a0 : Act} {i : Nat} {o : Oper} (h : StepJ P ops J a0 i o) : StepW P ops J a0 i o := by
  intro listed vals w' hl hdp hJ
  obtain ⟨h1, h2⟩ := h listed vals w' hl hdp hJ
  refine ⟨h1, fun hg a' hs hr hf K Qp hK => ?_⟩
  exact OpY.wp ((h2 hg a'.eval (fun _ => rfl) (fun _ => rfl) (fun _ => rfl) hr hf).mono fun v w'' hv => hK v w'' hv)
theorem wpAny_inv (hd : dstsApart ops = true) (hng : guardsOk ops = true) (J : (Nat → Bool) → (Nat → Value) → World → Prop) (a0 : Act)
    (hsz : (List.range ops.size).all (fun i => match dstOf ops i with | some d => decide (d < a0.tmps.size) | none => true) = true)
    (hext : ∀ (l l' : Nat → Bool) (v : Nat → Value) w, (∀ i, i < ops.size → l i = l' i) → J l v w → J l' v w)
    (hstep : ∀ i o, ops[i]? = some o → StepW P ops J a0 i o)
    (hdone : ∀ (vals : Nat → Value) w', J (fun _ => true) vals w' → Q .normal (putAll ops vals (fun _ => true) a0 ops.size) w')
    (hon : ops.all (fun o => o.after.all fun e => decide (e.on < ops.size)) = true)
    (hready : ∀ listed : Array Bool, listed.size = ops.size → Region.ready .any ops listed = [] → ∀ i, i < ops.size → listed.getD i false = true) :
    ∀ (fuel : Nat) (listed : Array Bool) (vals : Nat → Value) (w : World), listed.size = ops.size → ((List.range ops.size).filter fun i => !listed.getD i true).length ≤ fuel → J (fun i => listed.getD i false) vals w →
      wpAny P .any ops Q fuel listed (putAll ops vals (fun i => listed.getD i false) a0 ops.size) w := by
  intro fuel
  induction fuel with
  | zero =>
    intro listed vals w hls hf hJ
    have hdn : ∀ i, i < ops.size → listed.getD i false = true := by
      intro i hi
      cases h : listed.getD i false with
      | true => rfl
      | false =>
        have hi' : i < listed.size := by omega
        have h2 : listed.getD i true = false := by simp only [Array.getD, hi', dite_true] at h ⊢; exact h
        have hm : i ∈ (List.range ops.size).filter fun i => !listed.getD i true := List.mem_filter.2 ⟨List.mem_range.2 hi, by simp [h2]⟩
        have : 0 < ((List.range ops.size).filter fun i => !listed.getD i true).length := List.length_pos_of_mem hm
        omega
    have hr : Region.ready .any ops listed = [] := by
      unfold Region.ready
      rw [List.filter_eq_nil_iff]
      intro i hi
      have hi' := List.mem_range.1 hi
      have h1 := hdn i hi'
      have h2 : listed.getD i true = true := by
        have : i < listed.size := by omega
        simp only [Array.getD, this, dite_true] at h1 ⊢; exact h1
      simp [h2]
    refine ⟨hr, ?_⟩
    rw [putAll_congr (vals' := vals) (listed' := fun _ => true) ops.size (fun i hi => ⟨hdn i hi, fun _ => rfl⟩)]
    exact hdone vals w (hext _ _ _ _ (fun i hi => hdn i hi) hJ)
  | succ fuel ih =>
    intro listed vals w hls hf hJ
    refine ⟨fun hr => ?_, fun i hi => ?_⟩
    · have hdn := hready listed hls hr
      rw [putAll_congr (vals' := vals) (listed' := fun _ => true) ops.size (fun i hi => ⟨hdn i hi, fun _ => rfl⟩)]
      exact hdone vals w (hext _ _ _ _ (fun i hi => hdn i hi) hJ)
    · unfold Region.ready at hi
      rw [List.mem_filter, List.mem_range] at hi
      obtain ⟨his, hi2⟩ := hi
      simp only [Bool.and_eq_true, Bool.not_eq_true'] at hi2
      obtain ⟨hil, hi3⟩ := hi2
      obtain ⟨o, ho⟩ : ∃ o, ops[i]? = some o := ⟨_, Array.getElem?_eq_getElem his⟩
      rw [ho] at hi3
      simp only [Option.map_some, Option.getD_some] at hi3
      have hil' : listed.getD i false = false := by
        have : i < listed.size := by omega
        simp only [Array.getD, this, dite_true] at hil ⊢; exact hil
      have hson := Array.all_eq_true_iff_forall_mem.1 hon o (Array.mem_of_getElem? ho)
      have hdeps : ∀ j, (depsOf o).contains j = true → listed.getD j false = true ∧ j < ops.size := by
        intro j hj
        unfold depsOf at hj
        rw [List.contains_iff_mem, List.mem_map] at hj
        obtain ⟨e, he, rfl⟩ := hj
        obtain ⟨he1, he2⟩ := List.mem_filter.1 he
        have h1 := Array.all_eq_true_iff_forall_mem.1 hi3 e (by simpa using he1)
        rw [he2] at h1
        simp only [Bool.not_true, Bool.false_or] at h1
        have := Array.all_eq_true_iff_forall_mem.1 hson e (by simpa using he1)
        exact ⟨h1, by simpa using this⟩
      have hreads : ∀ j d, (depsOf o).contains j = true → dstOf ops j = some d → (putAll ops vals (fun i => listed.getD i false) a0 ops.size).eval (.tmp d) = vals j := by
        intro j d hj hjd
        obtain ⟨h1, h2⟩ := hdeps j hj
        have hds : d < a0.tmps.size := by
          have := List.all_eq_true.1 hsz j (List.mem_range.2 h2)
          rw [hjd] at this
          simpa using this
        exact putAll_eval_at hd hjd h1 hds ops.size h2 (Nat.le_refl _)
      obtain ⟨hs1, hs2⟩ := hstep i o ho _ vals w hil' (fun j hj => (hdeps j hj).1) hJ
      have hgy : ∀ g b, o.guard = some (g, b) → ∀ b', vals g = .bool b' → yielded ops (putAll ops vals (fun i => listed.getD i false) a0 ops.size).tmps g = some b' := by
        intro g b hg b' hv
        have h1 := Array.all_eq_true_iff_forall_mem.1 hng o (Array.mem_of_getElem? ho)
        rw [hg] at h1
        simp only [Bool.and_eq_true, decide_eq_true_eq, Option.isSome_iff_exists] at h1
        obtain ⟨⟨h3, hgs⟩, d, hd'⟩ := h1
        have hds : d < a0.tmps.size := by
          have := List.all_eq_true.1 hsz g (List.mem_range.2 hgs)
          rw [hd'] at this
          simpa using this
        exact yielded_is hd' (by rw [putAll_size]; exact hds) ((hreads g d h3 hd').trans hv)
      have hnext : ∀ v w'', J (doneL (fun i => listed.getD i false) i) (doneV vals i v) w'' →
          wpAny P .any ops Q fuel (listed.setIfInBounds i true) ((putAll ops vals (fun i => listed.getD i false) a0 ops.size).put o.dst v) w'' := by
        intro v w'' hJ'
        have hdo : o.dst = dstOf ops i := by unfold dstOf; rw [ho]; rfl
        rw [hdo, putAll_put hd hil' ops.size his (Nat.le_refl _)]
        have hcg : putAll ops (fun k => if k = i then v else vals k) (fun k => if k = i then true else listed.getD k false) a0 ops.size = putAll ops (fun k => if k = i then v else vals k) (fun k => (listed.setIfInBounds i true).getD k false) a0 ops.size :=
          putAll_congr ops.size (fun k hk => ⟨by rw [setIf_getD (by omega)], fun _ => rfl⟩)
        rw [hcg]
        refine ih (listed.setIfInBounds i true) _ w'' (by simpa using hls) ?_ ?_
        · have hsub : ((List.range ops.size).filter fun k => !(listed.setIfInBounds i true).getD k true).length < ((List.range ops.size).filter fun k => !listed.getD k true).length := by
            have e1 : ((List.range ops.size).filter fun k => !(listed.setIfInBounds i true).getD k true) = ((List.range ops.size).filter fun k => !listed.getD k true).filter fun k => decide (k ≠ i) := by
              rw [List.filter_filter]
              apply List.filter_congr
              intro k hk
              rw [setIf_getD (by omega)]
              by_cases hki : k = i <;> simp [hki]
            rw [e1]
            refine List.length_filter_lt_length_iff_exists.2 ⟨i, List.mem_filter.2 ⟨List.mem_range.2 his, by simp [hil]⟩, by simp⟩
          omega
        · refine hext _ _ _ _ (fun k hk => ?_) hJ'
          rw [setIf_getD (by omega)]
          rfl
      unfold wpOp
      simp only [ho]
      split
      · rename_i hw
        left
        refine hs2 ?_ _ (putAll_size _) hreads (fun d hfar => ?_) _ _ hnext
        · intro g b hg
          obtain ⟨b', hv, -⟩ := hs1 g b hg
          have := hgy g b hg b' hv
          unfold Region.wanted at hw
          rw [hg] at hw
          simp only [this] at hw
          rw [hv]
          simp at hw
          rw [hw]
        · refine putAll_eval_far ops.size (fun j hj => ?_)
          unfold farOf at hfar
          have := List.all_eq_true.1 hfar j (List.mem_range.2 hj)
          simpa using this
      · rename_i hw
        refine hnext _ _ ?_
        unfold Region.wanted at hw
        cases hg : o.guard with
        | none => rw [hg] at hw; simp at hw
        | some gb =>
          obtain ⟨g, b⟩ := gb
          obtain ⟨b', hv, hu⟩ := hs1 g b hg
          rw [hg] at hw
          simp only [hgy g b hg b' hv] at hw
          exact hu (by simpa using hw)
/-- A region that draws its order, by an invariant. -/
theorem wp_region_invW {F : Nat → Oper → Prop} {id : Nat} {a : Act} {w : World} (J : (Nat → Bool) → (Nat → Value) → World → Prop) (hm : P.follows .mixedOrders = true) (hd : dstsApart ops = true) (hb : edgesBackB ops = true) (hng : guardsOk ops = true)
    (hsz : (List.range ops.size).all (fun i => match dstOf ops i with | some d => decide (d < a.tmps.size) | none => true) = true)
    (hext : ∀ (l l' : Nat → Bool) (v : Nat → Value) w, (∀ i, i < ops.size → l i = l' i) → J l v w → J l' v w)
    (h0 : J (fun _ => false) (fun _ => undef) w.drew)
    (hto : ∀ i o, F i o → StepW P ops J a i o)
    (hstep : EachOp F 0 ops.toList)
    (hdone : ∀ (vals : Nat → Value) w', J (fun _ => true) vals w' → Q .normal (putAll ops vals (fun _ => true) a ops.size) w') :
    (Code.region id ops true).wp P Q a w := by
  refine wp_region_any hm ?_
  have hf : ∀ n, (Array.replicate ops.size false).getD n false = false := by
    intro n
    by_cases h : n < ops.size <;> simp [Array.getD, h]
  have hnone : putAll ops (fun _ => undef) (fun i => (Array.replicate ops.size false).getD i false) a ops.size = a := by
    have : ∀ n, putAll ops (fun _ => undef) (fun i => (Array.replicate ops.size false).getD i false) a n = a := by
      intro n
      induction n with
      | zero => rfl
      | succ n ih =>
        have hfn := hf n
        simp only [putAll, hfn, Bool.false_eq_true, if_false]; exact ih
    exact this _
  have := wpAny_inv hd hng J a hsz hext (fun i o hio => by have := EachOp.get hstep i o (by simpa using hio); rw [Nat.zero_add] at this; exact hto i o this) hdone (edges_onB hb)
    (fun listed' h1 h2 i hi => all_listedB hb h1 h2 (i + 1) i (by omega) hi) ops.size (Array.replicate ops.size false) (fun _ => undef) w.drew (by simp) (by
    have := List.length_filter_le (fun i => !(Array.replicate ops.size false).getD i true) (List.range ops.size)
    simpa using this) (hext _ _ _ _ (fun i _ => (hf i).symm) h0)
  rw [hnone] at this
  exact this
/-- The same, the frame behind all operations written out, by what they yield. -/
theorem wp_region_inv' {id : Nat} {a : Act} {aF : (Nat → Value) → Act} {w : World} (J : (Nat → Bool) → (Nat → Value) → World → Prop) (hF : ∀ vals, putAll ops vals (fun _ => true) a ops.size = aF vals) (hm : P.follows .mixedOrders = true) (hd : dstsApart ops = true) (hb : edgesBackB ops = true) (hng : guardsOk ops = true)
    (hsz : (List.range ops.size).all (fun i => match dstOf ops i with | some d => decide (d < a.tmps.size) | none => true) = true)
    (hext : ∀ (l l' : Nat → Bool) (v : Nat → Value) w, (∀ i, i < ops.size → l i = l' i) → J l v w → J l' v w)
    (h0 : J (fun _ => false) (fun _ => undef) w.drew)
    (hstep : EachOp (fun i o => StepJ P ops J a i o) 0 ops.toList)
    (hdone : ∀ (vals : Nat → Value) w', J (fun _ => true) vals w' → Q .normal (aF vals) w') :
    (Code.region id ops true).wp P Q a w :=
  wp_region_invW J hm hd hb hng hsz hext h0 (fun _ _ h => h.toW) hstep fun vals w' h => by rw [hF]; exact hdone vals w' h
/-- A region that draws its order, whose operations' values are known ahead, by an invariant over what has been done. -/
theorem wp_region_valsJ {id : Nat} {a aF : Act} {w : World} (vals : List Value) (J : (Nat → Bool) → World → Prop) (hF : putAll ops (fun i => vals.getD i undef) (fun _ => true) a ops.size = aF) (hm : P.follows .mixedOrders = true) (hd : dstsApart ops = true) (hb : edgesBackB ops = true) (hdep : depsOk ops = true) (hsel : Region.noSelect ops = true) (hng : guardsOk ops = true)
    (hgv : ops.all (fun o => match o.guard with | some (g, _) => (match vals.getD g undef with | .bool _ => true | _ => false) | none => true) = true)
    (hsz : (List.range ops.size).all (fun i => match dstOf ops i with | some d => decide (d < a.tmps.size) | none => true) = true)
    (hext : ∀ (l l' : Nat → Bool) w, (∀ i, i < ops.size → l i = l' i) → J l w → J l' w)
    (h0 : J (fun _ => false) w.drew)
    (hstep : EachOp (fun i o => ∀ l w', l i = false → (∀ j, (depsOf o).contains j = true → l j = true) → J l w' →
      if Region.wanted o (yielded ops aF.tmps) = true then OpAt P o aF (vals.getD i undef) (J (doneL l i)) w' else vals.getD i undef = undef ∧ J (doneL l i) w') 0 ops.toList)
    (hdone : ∀ w', J (fun _ => true) w' → Q .normal aF w') :
    (Code.region id ops true).wp P Q a w := by
  subst hF
  refine wp_region_invW (F := fun i o => ops[i]? = some o ∧ ∀ l w', l i = false → (∀ j, (depsOf o).contains j = true → l j = true) → J l w' →
      if Region.wanted o (yielded ops (putAll ops (fun i => vals.getD i undef) (fun _ => true) a ops.size).tmps) = true then OpAt P o (putAll ops (fun i => vals.getD i undef) (fun _ => true) a ops.size) (vals.getD i undef) (J (doneL l i)) w' else vals.getD i undef = undef ∧ J (doneL l i) w')
    (fun l v w => J l w ∧ ∀ j d, l j = true → dstOf ops j = some d → v j = vals.getD j undef) hm hd hb hng hsz (fun l l' v w h hJ => ⟨hext l l' w h hJ.1, fun j d hj hjd => hJ.2 j d ?_ hjd⟩) ⟨h0, fun j d h => by cases h⟩ ?_ ?_ ?_
  · have hjs : j < ops.size := by
      rcases Nat.lt_or_ge j ops.size with h | h
      · exact h
      · unfold dstOf at hjd; rw [Array.getElem?_eq_none h] at hjd; simp at hjd
    rw [h j hjs]; exact hj
  · rintro i o ⟨hio, hst⟩ listed v w' hl hdp ⟨hJ, hv⟩
    have his : i < ops.size := (Array.getElem?_eq_some_iff.1 hio).1
    have hdo : dstOf ops i = o.dst := by unfold dstOf; rw [hio]; rfl
    have hdep1 := List.all_eq_true.1 hdep i (List.mem_range.2 his)
    rw [hio] at hdep1
    simp only at hdep1
    have hst := hst listed w' hl hdp hJ
    have hdone : ∀ x, (o.dst = none ∨ x = vals.getD i undef) → ∀ j d, doneL listed i j = true → dstOf ops j = some d → doneV v i x j = vals.getD j undef := by
      intro x hx j d hj hjd
      unfold doneL at hj
      unfold doneV
      by_cases hji : j = i
      · subst hji
        rw [if_pos rfl]
        rcases hx with hx | hx
        · rw [hdo, hx] at hjd; cases hjd
        · exact hx
      · rw [if_neg hji] at hj ⊢
        exact hv j d hj hjd
    have hgb : ∀ g b, o.guard = some (g, b) → ∃ b' d, vals.getD g undef = .bool b' ∧ dstOf ops g = some d ∧ d < a.tmps.size ∧ (depsOf o).contains g = true := by
      intro g b hg
      have h1 := Array.all_eq_true_iff_forall_mem.1 hng o (Array.mem_of_getElem? hio)
      have h2 := Array.all_eq_true_iff_forall_mem.1 hgv o (Array.mem_of_getElem? hio)
      rw [hg] at h1 h2
      simp only [Bool.and_eq_true, decide_eq_true_eq, Option.isSome_iff_exists] at h1
      obtain ⟨⟨h3, hgs⟩, d, hd'⟩ := h1
      have hds : d < a.tmps.size := by
        have := List.all_eq_true.1 hsz g (List.mem_range.2 hgs)
        rw [hd'] at this
        simpa using this
      simp only at h2
      split at h2
      · rename_i b' hb'
        exact ⟨b', d, hb', hd', hds, h3⟩
      · cases h2
    have hgs : ∀ g, (∃ b, o.guard = some (g, b)) → g < ops.size := by
      rintro g ⟨b, hg⟩
      have h1 := Array.all_eq_true_iff_forall_mem.1 hng o (Array.mem_of_getElem? hio)
      rw [hg] at h1
      simp only [Bool.and_eq_true, decide_eq_true_eq] at h1
      exact h1.1.2
    have hwv : Region.wanted o (yielded ops (putAll ops (fun i => vals.getD i undef) (fun _ => true) a ops.size).tmps) = true ↔ ∀ g b, o.guard = some (g, b) → vals.getD g undef = .bool b := by
      unfold Region.wanted
      cases hg : o.guard with
      | none => simp
      | some gb =>
        obtain ⟨g, b⟩ := gb
        obtain ⟨b', d, h1, h2, h3, h4⟩ := hgb g b hg
        have hy := yielded_is (a' := putAll ops (fun i => vals.getD i undef) (fun _ => true) a ops.size) (b := b') h2 (by rw [putAll_size]; exact h3) ((putAll_eval_at hd h2 rfl h3 ops.size (hgs g ⟨b, hg⟩) (Nat.le_refl _)).trans h1)
        simp only [hy]
        constructor
        · intro h g' b2 h'
          obtain ⟨rfl, rfl⟩ := Prod.mk.inj (Option.some.inj h')
          rw [h1]
          simp at h
          rw [h]
        · intro h
          have := (h g b rfl).symm.trans h1
          injection this with this
          simp [this]
    refine ⟨fun g b hg => ?_, fun hgt a' hs hr hf K Qp hK => ?_⟩
    · obtain ⟨b', d, h1, h2, h3, h4⟩ := hgb g b hg
      refine ⟨b', (hv g d (hdp g h4) h2).trans h1, fun hne => ?_⟩
      have hwf : ¬ Region.wanted o (yielded ops (putAll ops (fun i => vals.getD i undef) (fun _ => true) a ops.size).tmps) = true := by
        rw [hwv]
        intro h
        have := h1.symm.trans (h g b hg)
        injection this with this
        exact hne this
      rw [if_neg hwf] at hst
      exact ⟨hst.2, hdone undef (Or.inr hst.1.symm)⟩
    · have hwt : Region.wanted o (yielded ops (putAll ops (fun i => vals.getD i undef) (fun _ => true) a ops.size).tmps) = true := by
        rw [hwv]
        intro g b hg
        obtain ⟨b', d, h1, h2, h3, h4⟩ := hgb g b hg
        rw [← hv g d (hdp g h4) h2]
        exact hgt g b hg
      rw [if_pos hwt] at hst
      have look : ∀ t, t ∈ o.looksAt ops → a'.eval (.tmp t) = (putAll ops (fun i => vals.getD i undef) (fun _ => true) a ops.size).eval (.tmp t) := by
        intro t ht
        have h1 := List.all_eq_true.1 hdep1 t ht
        by_cases hx : ∃ j, j < ops.size ∧ dstOf ops j = some t
        · obtain ⟨j, hj, hjt⟩ := hx
          have h2 := List.all_eq_true.1 h1 j (List.mem_range.2 hj)
          rw [hjt] at h2
          simp only [bne_self_eq_false, Bool.false_or] at h2
          have hjd : (depsOf o).contains j = true := by
            obtain ⟨e, he, hbe⟩ := List.any_eq_true.1 h2
            simp only [Bool.and_eq_true, beq_iff_eq] at hbe
            unfold depsOf
            rw [List.contains_iff_mem, List.mem_map]
            exact ⟨e, List.mem_filter.2 ⟨he, hbe.1⟩, hbe.2⟩
          have hts : t < a.tmps.size := by
            have := List.all_eq_true.1 hsz j (List.mem_range.2 hj)
            rw [hjt] at this
            simpa using this
          rw [hr j t hjd hjt, hv j t (hdp j hjd) hjt, putAll_eval_at hd hjt rfl hts ops.size hj (Nat.le_refl _)]
        · have hall : farOf ops t = true := by
            refine List.all_eq_true.2 fun j hj => ?_
            rw [bne_iff_ne]
            exact fun e => hx ⟨j, List.mem_range.1 hj, e⟩
          rw [hf t hall, putAll_eval_far ops.size (fun j hj e => hx ⟨j, hj, e⟩)]
      have hexec : execOp a'.eval o = execOp (putAll ops (fun i => vals.getD i undef) (fun _ => true) a ops.size).eval o := by
        refine execOp_congr o (Region.noSelect_spec hsel i o · · hio) fun x hx => ?_
        cases x with
        | tmp t => exact look t (List.mem_append_left _ (List.mem_filterMap.2 ⟨.tmp t, by simpa using hx, rfl⟩))
        | const c => rfl
        | global g => rfl
        | func f => rfl
      unfold Oper.wp
      rw [hexec]
      refine upon_transfer' (aL := putAll ops (fun i => vals.getD i undef) (fun _ => true) a ops.size) (R := fun x w'' => (o.dst = none ∨ x = vals.getD i undef) ∧ J (doneL listed i) w'') ?_ ?_ fun x w'' h => hK _ _ ⟨h.2, hdone x h.1⟩
      · intro d hdd
        rw [putAll_size]
        have := List.all_eq_true.1 hsz i (List.mem_range.2 his)
        rw [hdo, hdd] at this
        simpa using this
      · exact hst _ _ fun w'' h => ⟨_, rfl, Or.inr rfl, h⟩
  · have : ∀ (l : List Oper) (n : Nat), (∀ k o, l[k]? = some o → ops[n + k]? = some o) → EachOp (fun i o => ∀ l w', l i = false → (∀ j, (depsOf o).contains j = true → l j = true) → J l w' →
        if Region.wanted o (yielded ops (putAll ops (fun i => vals.getD i undef) (fun _ => true) a ops.size).tmps) = true then OpAt P o (putAll ops (fun i => vals.getD i undef) (fun _ => true) a ops.size) (vals.getD i undef) (J (doneL l i)) w' else vals.getD i undef = undef ∧ J (doneL l i) w') n l → EachOp (fun i o => ops[i]? = some o ∧ ∀ l w', l i = false → (∀ j, (depsOf o).contains j = true → l j = true) → J l w' →
        if Region.wanted o (yielded ops (putAll ops (fun i => vals.getD i undef) (fun _ => true) a ops.size).tmps) = true then OpAt P o (putAll ops (fun i => vals.getD i undef) (fun _ => true) a ops.size) (vals.getD i undef) (J (doneL l i)) w' else vals.getD i undef = undef ∧ J (doneL l i) w') n l := by
      intro l
      induction l with
      | nil => intro n _ _; trivial
      | cons x l ih =>
        intro n hk h
        refine ⟨⟨by simpa using hk 0 x rfl, h.1⟩, ih (n + 1) (fun k o ho => ?_) h.2⟩
        have := hk (k + 1) o (by simpa using ho)
        have e : n + 1 + k = n + (k + 1) := by omega
        rw [e]; exact this
    exact this ops.toList 0 (fun k o h => by simpa using h) hstep
  · intro v w' h
    rw [putAll_congr_dst (vals' := fun i => vals.getD i undef) ops.size (fun i d hi hid => h.2 i d rfl hid)]
    exact hdone w' h.1
end
end Go.Proofs.YtcddlnmcjmhbcaaDoor
/-
  A region that draws its order, whose operations' values are known ahead (some of them not wanted), said operation by operation without a frame. And a region of two stores. Said of any program. Nothing of the program.
-/
namespace Go.Proofs.YtcddlnmcjmhbcaaDoor
set_option linter.unusedVariables false
open Go
section
variable {P : Program} {ops : Array Oper} {Q : Exit → Act → World → Prop}
/-- A value that is wanted only if not. -/
def WF (s : Bool) (x : Value) : Value := match s with | true => undef | false => x
/-- A value that is wanted only if so. -/
def WT (s : Bool) (x : Value) : Value := match s with | true => x | false => undef
def GuardK (K : Nat → Value) (i : Nat) (o : Oper) : Prop := ∀ (g : Nat) (b : Bool), o.guard = some (g, b) → ∃ b', K g = .bool b' ∧ (b' ≠ b → K i = undef)
/-- What an operation must do. -/
def StepK (P : Program) (ops : Array Oper) (K : Nat → Value) (G : World → Prop) (a0 : Act) (i : Nat) (o : Oper) : Prop :=
  GuardK K i o ∧ ∀ w', G w' → (∀ (g : Nat) (b : Bool), o.guard = some (g, b) → K g = .bool b) →
    ∀ (ρ : Operand → Value), (∀ v, ρ (.const v) = v) → (∀ g, ρ (.global g) = .pointer (some ⟨g, 0, none⟩)) → (∀ f, ρ (.func f) = .func (.func f) #[] #[]) →
      (∀ j d, (depsOf o).contains j = true → dstOf ops j = some d → ρ (.tmp d) = K j) → (∀ d, farOf ops d = true → ρ (.tmp d) = a0.eval (.tmp d)) →
      OpY P o ρ w' fun v w'' => (o.dst = none ∨ v = K i) ∧ G w''
theorem wp_region_known {id : Nat} {a aF : Act} {w : World} (K : Nat → Value) (G : World → Prop) (hF : putAll ops K (fun _ => true) a ops.size = aF) (hm : P.follows .mixedOrders = true) (hd : dstsApart ops = true) (hb : edgesBackB ops = true) (hng : guardsOk ops = true)
    (hsz : (List.range ops.size).all (fun i => match dstOf ops i with | some d => decide (d < a.tmps.size) | none => true) = true)
    (h0 : G w.drew)
    (hstep : EachOp (fun i o => StepK P ops K G a i o) 0 ops.toList)
    (hdone : ∀ w', G w' → Q .normal aF w') :
    (Code.region id ops true).wp P Q a w := by
  subst hF
  have hall : ∀ (l : List Oper) (n : Nat), (∀ k o, l[k]? = some o → ops[n + k]? = some o) → EachOp (fun i o => StepK P ops K G a i o) n l → EachOp (fun i o => ops[i]? = some o ∧ StepK P ops K G a i o) n l := by
    intro l
    induction l with
    | nil => intro n _ _; trivial
    | cons x l ih =>
      intro n hk h
      refine ⟨⟨by simpa using hk 0 x rfl, h.1⟩, ih (n + 1) (fun k o ho => ?_) h.2⟩
      have := hk (k + 1) o (by simpa using ho)
      have e : n + 1 + k = n + (k + 1) := by omega
      rw [e]; exact this
  refine wp_region_invW (F := fun i o => ops[i]? = some o ∧ StepK P ops K G a i o) (fun l v w => G w ∧ ∀ j d, l j = true → dstOf ops j = some d → v j = K j) hm hd hb hng hsz
    (fun l l' v w h hJ => ⟨hJ.1, fun j d hj hjd => hJ.2 j d ?_ hjd⟩) ⟨h0, fun j d h => by cases h⟩ ?_ (hall ops.toList 0 (fun k o h => by simpa using h) hstep) ?_
  · have hjs : j < ops.size := by
      rcases Nat.lt_or_ge j ops.size with h | h
      · exact h
      · unfold dstOf at hjd; rw [Array.getElem?_eq_none h] at hjd; simp at hjd
    rw [h j hjs]; exact hj
  · rintro i o ⟨hio, hgk, hst⟩
    refine StepJ.toW ?_
    intro l v w' hl hdp hJ
    obtain ⟨hG, hv⟩ := hJ
    have hdo : dstOf ops i = o.dst := by unfold dstOf; rw [hio]; rfl
    have hnx : ∀ x, (o.dst = none ∨ x = K i) → ∀ j d, doneL l i j = true → dstOf ops j = some d → doneV v i x j = K j := by
      intro x hx j d hj hjd
      unfold doneL at hj
      unfold doneV
      by_cases hji : j = i
      · subst hji
        rw [if_pos rfl]
        rcases hx with hx | hx
        · rw [hdo, hx] at hjd; cases hjd
        · exact hx
      · rw [if_neg hji] at hj ⊢
        exact hv j d hj hjd
    have hgv : ∀ g b, o.guard = some (g, b) → v g = K g := by
      intro g b hg
      have h1 := Array.all_eq_true_iff_forall_mem.1 hng o (Array.mem_of_getElem? hio)
      rw [hg] at h1
      simp only [Bool.and_eq_true, decide_eq_true_eq, Option.isSome_iff_exists] at h1
      obtain ⟨⟨h3, -⟩, d, hd'⟩ := h1
      exact hv g d (hdp g h3) hd'
    refine ⟨fun g b hg => ?_, fun hg ρ h1 h2 h3 h4 h5 => ?_⟩
    · obtain ⟨b', hb1, hb2⟩ := hgk g b hg
      exact ⟨b', (hgv g b hg).trans hb1, fun hne => ⟨hG, hnx undef (Or.inr (hb2 hne).symm)⟩⟩
    · refine (hst w' hG (fun g b h => (hgv g b h).symm.trans (hg g b h)) ρ h1 h2 h3 (fun j d hj hjd => ?_) h5).mono fun x w'' h => ⟨h.2, hnx x h.1⟩
      rw [h4 j d hj hjd]
      exact hv j d (hdp j hj) hjd
  · intro v w' h
    rw [putAll_congr_dst (vals' := K) ops.size (fun i d hi hid => h.2 i d rfl hid)]
    exact hdone w' h.1
/-- Two stores, one behind the other. -/
structure TwoSt (W0 : World) (b p q : Nat) (x y : Value) (m n : Nat) (l : Nat → Bool) (w' : World) : Prop where
  ord : l n = true → l m = true
  is : w' = if l n = true then ((W0.setCell ⟨b, p, none⟩ x).setCell ⟨b, q, none⟩ y) else if l m = true then W0.setCell ⟨b, p, none⟩ x else W0
variable {W0 w' : World} {b p q m n : Nat} {x y : Value} {l : Nat → Bool}
theorem TwoSt.ext {k : Nat} {l' : Nat → Bool} (hm : m < k) (hn : n < k) (h : ∀ i, i < k → l i = l' i) (H : TwoSt W0 b p q x y m n l w') : TwoSt W0 b p q x y m n l' w' where
  ord h1 := by rw [← h m hm]; exact H.ord (by rw [h n hn]; exact h1)
  is := by rw [← h m hm, ← h n hn]; exact H.is
theorem TwoSt.start : TwoSt W0 b p q x y m n (fun _ => false) W0 where
  ord h := by cases h
  is := rfl
theorem TwoSt.other (i : Nat) (h1 : i ≠ m) (h2 : i ≠ n) (H : TwoSt W0 b p q x y m n l w') : TwoSt W0 b p q x y m n (doneL l i) w' where
  ord h := by
    unfold doneL at h ⊢
    rw [if_neg (Ne.symm h1)]; rw [if_neg (Ne.symm h2)] at h
    exact H.ord h
  is := by
    unfold doneL
    rw [if_neg (Ne.symm h1), if_neg (Ne.symm h2)]
    exact H.is
theorem TwoSt.first (hne : m ≠ n) (hl : l m = false) (H : TwoSt W0 b p q x y m n l w') : w' = W0 ∧ TwoSt W0 b p q x y m n (doneL l m) (W0.setCell ⟨b, p, none⟩ x) := by
  have hn : l n = false := by
    cases h : l n with
    | false => rfl
    | true => rw [H.ord h] at hl; cases hl
  refine ⟨by rw [H.is, hl, hn]; rfl, ?_, ?_⟩
  · intro _; unfold doneL; rw [if_pos rfl]
  · unfold doneL
    rw [if_pos rfl, if_neg (Ne.symm hne), hn]; rfl
theorem TwoSt.second (hne : m ≠ n) (hm : l m = true) (hl : l n = false) (H : TwoSt W0 b p q x y m n l w') : w' = W0.setCell ⟨b, p, none⟩ x ∧ TwoSt W0 b p q x y m n (doneL l n) ((W0.setCell ⟨b, p, none⟩ x).setCell ⟨b, q, none⟩ y) := by
  refine ⟨by rw [H.is, hm, hl]; rfl, ?_, ?_⟩
  · intro _; unfold doneL; rw [if_neg hne]; exact hm
  · unfold doneL
    rw [if_pos rfl]; rfl
theorem TwoSt.done (H : TwoSt W0 b p q x y m n (fun _ => true) w') : w' = ((W0.setCell ⟨b, p, none⟩ x).setCell ⟨b, q, none⟩ y) := H.is
end
end Go.Proofs.YtcddlnmcjmhbcaaDoor
/-
  A region that draws its order, of whose operations' values something is known that stays true (they may depend on the run), some of them not wanted; said operation by operation without a frame. Said of any program. Nothing of the program.
-/
namespace Go.Proofs.YtcddlnmcjmhbcaaDoor
set_option linter.unusedVariables false
open Go
section
variable {P : Program} {ops : Array Oper} {Q : Exit → Act → World → Prop}
def GuardV (V : Nat → Value → World → Prop) (i : Nat) (o : Oper) : Prop := ∀ (g : Nat) (b : Bool), o.guard = some (g, b) → ∃ b', (∀ v w, V g v w → v = .bool b') ∧ (b' ≠ b → ∀ w, V i undef w)
end
end Go.Proofs.YtcddlnmcjmhbcaaDoor
/-
  A region that draws its order, whose operations' values are known ahead (some of them not wanted), by an invariant over what has been done, said operation by operation without a frame. Said of any program. Nothing of the program.
-/
namespace Go.Proofs.YtcddlnmcjmhbcaaDoor
set_option linter.unusedVariables false
open Go
section
variable {P : Program} {ops : Array Oper} {Q : Exit → Act → World → Prop}
end
end Go.Proofs.YtcddlnmcjmhbcaaDoor
/-
  As Reg8, for regions that read a slot which a later operation of theirs writes: before that the slot holds what it held ahead. Said of any program. Nothing of the program.
-/
namespace Go.Proofs.YtcddlnmcjmhbcaaDoor
set_option linter.unusedVariables false
open Go
section
variable {P : Program} {ops : Array Oper} {Q : Exit → Act → World → Prop}
theorem putAll_eval_undone {vals : Nat → Value} {listed : Nat → Bool} {a : Act} {d : Tmp} : ∀ (n : Nat), (∀ j, j < n → dstOf ops j = some d → listed j = false) → (putAll ops vals listed a n).eval (.tmp d) = a.eval (.tmp d)
  | 0, _ => rfl
  | n + 1, h => by
    simp only [putAll]
    split
    · rename_i hl
      rw [eval_put_other (fun hd => by rw [h n (by omega) hd] at hl; cases hl)]
      exact putAll_eval_undone n (fun j hj => h j (by omega))
    · exact putAll_eval_undone n (fun j hj => h j (by omega))
def StepW9 (P : Program) (ops : Array Oper) (J : (Nat → Bool) → (Nat → Value) → World → Prop) (a0 : Act) (i : Nat) (o : Oper) : Prop :=
  ∀ (listed : Nat → Bool) (vals : Nat → Value) (w' : World), listed i = false → (∀ j, (depsOf o).contains j = true → listed j = true) → J listed vals w' →
    (∀ (g : Nat) (b : Bool), o.guard = some (g, b) → ∃ b', vals g = .bool b' ∧ (b' ≠ b → J (doneL listed i) (doneV vals i undef) w')) ∧
    ((∀ (g : Nat) (b : Bool), o.guard = some (g, b) → vals g = .bool b) →
      ∀ (a' : Act), a'.tmps.size = a0.tmps.size → (∀ j d, (depsOf o).contains j = true → dstOf ops j = some d → a'.eval (.tmp d) = vals j) → (∀ d, (∀ j, dstOf ops j = some d → listed j = false) → a'.eval (.tmp d) = a0.eval (.tmp d)) →
        ∀ (K : Act → World → Prop) (Qp : Exit → Act → World → Prop), (∀ v w'', J (doneL listed i) (doneV vals i v) w'' → K (a'.put o.dst v) w'') → o.wp P a' w' K Qp)
theorem wpAny_inv9 (hd : dstsApart ops = true) (hng : guardsOk ops = true) (J : (Nat → Bool) → (Nat → Value) → World → Prop) (a0 : Act)
    (hsz : (List.range ops.size).all (fun i => match dstOf ops i with | some d => decide (d < a0.tmps.size) | none => true) = true)
    (hext : ∀ (l l' : Nat → Bool) (v : Nat → Value) w, (∀ i, i < ops.size → l i = l' i) → J l v w → J l' v w)
    (hstep : ∀ i o, ops[i]? = some o → StepW9 P ops J a0 i o)
    (hdone : ∀ (vals : Nat → Value) w', J (fun _ => true) vals w' → Q .normal (putAll ops vals (fun _ => true) a0 ops.size) w')
    (hon : ops.all (fun o => o.after.all fun e => decide (e.on < ops.size)) = true)
    (hready : ∀ listed : Array Bool, listed.size = ops.size → Region.ready .any ops listed = [] → ∀ i, i < ops.size → listed.getD i false = true) :
    ∀ (fuel : Nat) (listed : Array Bool) (vals : Nat → Value) (w : World), listed.size = ops.size → ((List.range ops.size).filter fun i => !listed.getD i true).length ≤ fuel → J (fun i => listed.getD i false) vals w →
      wpAny P .any ops Q fuel listed (putAll ops vals (fun i => listed.getD i false) a0 ops.size) w := by
  intro fuel
  induction fuel with
  | zero =>
    intro listed vals w hls hf hJ
    have hdn : ∀ i, i < ops.size → listed.getD i false = true := by
      intro i hi
      cases h : listed.getD i false with
      | true => rfl
      | false =>
        have hi' : i < listed.size := by omega
        have h2 : listed.getD i true = false := by simp only [Array.getD, hi', dite_true] at h ⊢; exact h
        have hm : i ∈ (List.range ops.size).filter fun i => !listed.getD i true := List.mem_filter.2 ⟨List.mem_range.2 hi, by simp [h2]⟩
        have : 0 < ((List.range ops.size).filter fun i => !listed.getD i true).length := List.length_pos_of_mem hm
        omega
    have hr : Region.ready .any ops listed = [] := by
      unfold Region.ready
      rw [List.filter_eq_nil_iff]
      intro i hi
      have hi' := List.mem_range.1 hi
      have h1 := hdn i hi'
      have h2 : listed.getD i true = true := by
        have : i < listed.size := by omega
        simp only [Array.getD, this, dite_true] at h1 ⊢; exact h1
      simp [h2]
    refine ⟨hr, ?_⟩
    rw [putAll_congr (vals' := vals) (listed' := fun _ => true) ops.size (fun i hi => ⟨hdn i hi, fun _ => rfl⟩)]
    exact hdone vals w (hext _ _ _ _ (fun i hi => hdn i hi) hJ)
  | succ fuel ih =>
    intro listed vals w hls hf hJ
    refine ⟨fun hr => ?_, fun i hi => ?_⟩
    · have hdn := hready listed hls hr
      rw [putAll_congr (vals' := vals) (listed' := fun _ => true) ops.size (fun i hi => ⟨hdn i hi, fun _ => rfl⟩)]
      exact hdone vals w (hext _ _ _ _ (fun i hi => hdn i hi) hJ)
    · unfold Region.ready at hi
      rw [List.mem_filter, List.mem_range] at hi
      obtain ⟨his, hi2⟩ := hi
      simp only [Bool.and_eq_true, Bool.not_eq_true'] at hi2
      obtain ⟨hil, hi3⟩ := hi2
      obtain ⟨o, ho⟩ : ∃ o, ops[i]? = some o := ⟨_, Array.getElem?_eq_getElem his⟩
      rw [ho] at hi3
      simp only [Option.map_some, Option.getD_some] at hi3
      have hil' : listed.getD i false = false := by
        have : i < listed.size := by omega
        simp only [Array.getD, this, dite_true] at hil ⊢; exact hil
      have hson := Array.all_eq_true_iff_forall_mem.1 hon o (Array.mem_of_getElem? ho)
      have hdeps : ∀ j, (depsOf o).contains j = true → listed.getD j false = true ∧ j < ops.size := by
        intro j hj
        unfold depsOf at hj
        rw [List.contains_iff_mem, List.mem_map] at hj
        obtain ⟨e, he, rfl⟩ := hj
        obtain ⟨he1, he2⟩ := List.mem_filter.1 he
        have h1 := Array.all_eq_true_iff_forall_mem.1 hi3 e (by simpa using he1)
        rw [he2] at h1
        simp only [Bool.not_true, Bool.false_or] at h1
        have := Array.all_eq_true_iff_forall_mem.1 hson e (by simpa using he1)
        exact ⟨h1, by simpa using this⟩
      have hreads : ∀ j d, (depsOf o).contains j = true → dstOf ops j = some d → (putAll ops vals (fun i => listed.getD i false) a0 ops.size).eval (.tmp d) = vals j := by
        intro j d hj hjd
        obtain ⟨h1, h2⟩ := hdeps j hj
        have hds : d < a0.tmps.size := by
          have := List.all_eq_true.1 hsz j (List.mem_range.2 h2)
          rw [hjd] at this
          simpa using this
        exact putAll_eval_at hd hjd h1 hds ops.size h2 (Nat.le_refl _)
      obtain ⟨hs1, hs2⟩ := hstep i o ho _ vals w hil' (fun j hj => (hdeps j hj).1) hJ
      have hgy : ∀ g b, o.guard = some (g, b) → ∀ b', vals g = .bool b' → yielded ops (putAll ops vals (fun i => listed.getD i false) a0 ops.size).tmps g = some b' := by
        intro g b hg b' hv
        have h1 := Array.all_eq_true_iff_forall_mem.1 hng o (Array.mem_of_getElem? ho)
        rw [hg] at h1
        simp only [Bool.and_eq_true, decide_eq_true_eq, Option.isSome_iff_exists] at h1
        obtain ⟨⟨h3, hgs⟩, d, hd'⟩ := h1
        have hds : d < a0.tmps.size := by
          have := List.all_eq_true.1 hsz g (List.mem_range.2 hgs)
          rw [hd'] at this
          simpa using this
        exact yielded_is hd' (by rw [putAll_size]; exact hds) ((hreads g d h3 hd').trans hv)
      have hnext : ∀ v w'', J (doneL (fun i => listed.getD i false) i) (doneV vals i v) w'' →
          wpAny P .any ops Q fuel (listed.setIfInBounds i true) ((putAll ops vals (fun i => listed.getD i false) a0 ops.size).put o.dst v) w'' := by
        intro v w'' hJ'
        have hdo : o.dst = dstOf ops i := by unfold dstOf; rw [ho]; rfl
        rw [hdo, putAll_put hd hil' ops.size his (Nat.le_refl _)]
        have hcg : putAll ops (fun k => if k = i then v else vals k) (fun k => if k = i then true else listed.getD k false) a0 ops.size = putAll ops (fun k => if k = i then v else vals k) (fun k => (listed.setIfInBounds i true).getD k false) a0 ops.size :=
          putAll_congr ops.size (fun k hk => ⟨by rw [setIf_getD (by omega)], fun _ => rfl⟩)
        rw [hcg]
        refine ih (listed.setIfInBounds i true) _ w'' (by simpa using hls) ?_ ?_
        · have hsub : ((List.range ops.size).filter fun k => !(listed.setIfInBounds i true).getD k true).length < ((List.range ops.size).filter fun k => !listed.getD k true).length := by
            have e1 : ((List.range ops.size).filter fun k => !(listed.setIfInBounds i true).getD k true) = ((List.range ops.size).filter fun k => !listed.getD k true).filter fun k => decide (k ≠ i) := by
              rw [List.filter_filter]
              apply List.filter_congr
              intro k hk
              rw [setIf_getD (by omega)]
              by_cases hki : k = i <;> simp [hki]
            rw [e1]
            refine List.length_filter_lt_length_iff_exists.2 ⟨i, List.mem_filter.2 ⟨List.mem_range.2 his, by simp [hil]⟩, by simp⟩
          omega
        · refine hext _ _ _ _ (fun k hk => ?_) hJ'
          rw [setIf_getD (by omega)]
          rfl
      unfold wpOp
      simp only [ho]
      split
      · rename_i hw
        left
        refine hs2 ?_ _ (putAll_size _) hreads (fun d hfar => ?_) _ _ hnext
        · intro g b hg
          obtain ⟨b', hv, -⟩ := hs1 g b hg
          have := hgy g b hg b' hv
          unfold Region.wanted at hw
          rw [hg] at hw
          simp only [this] at hw
          rw [hv]
          simp at hw
          rw [hw]
        · exact putAll_eval_undone ops.size (fun j _ hjd => hfar j hjd)
      · rename_i hw
        refine hnext _ _ ?_
        unfold Region.wanted at hw
        cases hg : o.guard with
        | none => rw [hg] at hw; simp at hw
        | some gb =>
          obtain ⟨g, b⟩ := gb
          obtain ⟨b', hv, hu⟩ := hs1 g b hg
          rw [hg] at hw
          simp only [hgy g b hg b' hv] at hw
          exact hu (by simpa using hw)
theorem wp_region_invW9 {F : Nat → Oper → Prop} {id : Nat} {a : Act} {w : World} (J : (Nat → Bool) → (Nat → Value) → World → Prop) (hm : P.follows .mixedOrders = true) (hd : dstsApart ops = true) (hb : edgesBackB ops = true) (hng : guardsOk ops = true)
    (hsz : (List.range ops.size).all (fun i => match dstOf ops i with | some d => decide (d < a.tmps.size) | none => true) = true)
    (hext : ∀ (l l' : Nat → Bool) (v : Nat → Value) w, (∀ i, i < ops.size → l i = l' i) → J l v w → J l' v w)
    (h0 : J (fun _ => false) (fun _ => undef) w.drew)
    (hto : ∀ i o, F i o → StepW9 P ops J a i o)
    (hstep : EachOp F 0 ops.toList)
    (hdone : ∀ (vals : Nat → Value) w', J (fun _ => true) vals w' → Q .normal (putAll ops vals (fun _ => true) a ops.size) w') :
    (Code.region id ops true).wp P Q a w := by
  refine wp_region_any hm ?_
  have hf : ∀ n, (Array.replicate ops.size false).getD n false = false := by
    intro n
    by_cases h : n < ops.size <;> simp [Array.getD, h]
  have hnone : putAll ops (fun _ => undef) (fun i => (Array.replicate ops.size false).getD i false) a ops.size = a := by
    have : ∀ n, putAll ops (fun _ => undef) (fun i => (Array.replicate ops.size false).getD i false) a n = a := by
      intro n
      induction n with
      | zero => rfl
      | succ n ih =>
        have hfn := hf n
        simp only [putAll, hfn, Bool.false_eq_true, if_false]; exact ih
    exact this _
  have := wpAny_inv9 hd hng J a hsz hext (fun i o hio => by have := EachOp.get hstep i o (by simpa using hio); rw [Nat.zero_add] at this; exact hto i o this) hdone (edges_onB hb)
    (fun listed' h1 h2 i hi => all_listedB hb h1 h2 (i + 1) i (by omega) hi) ops.size (Array.replicate ops.size false) (fun _ => undef) w.drew (by simp) (by
    have := List.length_filter_le (fun i => !(Array.replicate ops.size false).getD i true) (List.range ops.size)
    simpa using this) (hext _ _ _ _ (fun i _ => (hf i).symm) h0)
  rw [hnone] at this
  exact this
end
end Go.Proofs.YtcddlnmcjmhbcaaDoor
/-
  A region that draws its order, whose last operations stand in a row behind all others: of the first ones' values something is known that stays true; the last ones go from state to state. Said of any program. Nothing of the program.
-/
namespace Go.Proofs.YtcddlnmcjmhbcaaDoor
set_option linter.unusedVariables false
open Go
section
variable {P : Program} {ops : Array Oper} {Q : Exit → Act → World → Prop}
def depsAt (ops : Array Oper) (i : Nat) : List Nat := match ops[i]? with | some o => depsOf o | none => []
/-- Does i wait for j, directly or through others? -/
def reachB (ops : Array Oper) : Nat → Nat → Nat → Bool
  | 0, _, _ => false
  | f + 1, i, j => (depsAt ops i).contains j || (depsAt ops i).any fun k => decide (j < k) && decide (k < i) && reachB ops f k j
def tailOk (ops : Array Oper) (N : Nat) : Bool := (List.range ops.size).all fun i => decide (i < N) || (List.range i).all fun j => reachB ops (i + 1) i j
def ClosedL (ops : Array Oper) (l : Nat → Bool) : Prop := ∀ j, l j = true → ∀ k, (depsAt ops j).contains k = true → l k = true
theorem reach_done {l : Nat → Bool} (h : ClosedL ops l) : ∀ (f i j : Nat), (∀ k, (depsAt ops i).contains k = true → l k = true) → reachB ops f i j = true → l j = true
  | 0, i, j, _, hr => by cases hr
  | f + 1, i, j, hd, hr => by
    unfold reachB at hr
    rw [Bool.or_eq_true] at hr
    rcases hr with hr | hr
    · exact hd j hr
    · rw [List.any_eq_true] at hr
      obtain ⟨k, hk, hr⟩ := hr
      simp only [Bool.and_eq_true] at hr
      exact reach_done h f k j (h k (hd k (List.contains_iff_mem.2 hk))) hr.2
/-- No operation ahead of N writes this slot. -/
def farN (ops : Array Oper) (N d : Nat) : Bool := (List.range N).all fun j => decide (dstOf ops j ≠ some d)
/-- What one of the first operations must do. -/
def StepF (P : Program) (ops : Array Oper) (N : Nat) (V : Nat → Value → World → Prop) (G : World → Prop) (Gr : World → World → Prop) (a0 : Act) (i : Nat) (o : Oper) : Prop :=
  GuardV V i o ∧ ∀ w', G w' → (∀ (g : Nat) (b : Bool), o.guard = some (g, b) → ∀ v w, V g v w → v = .bool b) →
    ∀ (ρ : Operand → Value), (∀ v, ρ (.const v) = v) → (∀ g, ρ (.global g) = .pointer (some ⟨g, 0, none⟩)) → (∀ f, ρ (.func f) = .func (.func f) #[] #[]) →
      (∀ j d, (depsOf o).contains j = true → dstOf ops j = some d → V j (ρ (.tmp d)) w') → (∀ d, farN ops N d = true → ρ (.tmp d) = a0.eval (.tmp d)) →
      OpY P o ρ w' fun v w'' => V i v w'' ∧ G w'' ∧ Gr w' w''
/-- What one of the last operations must do. -/
def StepT (P : Program) (ops : Array Oper) (S : Nat → (Nat → Value) → World → Prop) (a0 : Act) (i : Nat) (o : Oper) : Prop :=
  o.guard = none ∧ ∀ (v : Nat → Value) (w' : World), S i v w' →
    ∀ (ρ : Operand → Value), (∀ v, ρ (.const v) = v) → (∀ g, ρ (.global g) = .pointer (some ⟨g, 0, none⟩)) → (∀ f, ρ (.func f) = .func (.func f) #[] #[]) →
      (∀ j d, (depsOf o).contains j = true → dstOf ops j = some d → ρ (.tmp d) = v j) → (∀ d, farN ops i d = true → farOf ops d = true → ρ (.tmp d) = a0.eval (.tmp d)) →
      OpY P o ρ w' fun x w'' => S (i + 1) (doneV v i x) w''
def TailJ (ops : Array Oper) (N : Nat) (V : Nat → Value → World → Prop) (G : World → Prop) (S : Nat → (Nat → Value) → World → Prop) (l : Nat → Bool) (v : Nat → Value) (w : World) : Prop :=
  (∀ j, j < ops.size → l j = true → ∀ k, (depsAt ops j).contains k = true → l k = true) ∧
  (((∀ i, N ≤ i → i < ops.size → l i = false) ∧ G w ∧ ∀ j, j < N → l j = true → V j (v j) w) ∨
   ∃ s, N < s ∧ s ≤ ops.size ∧ (∀ i, i < s → l i = true) ∧ (∀ i, s ≤ i → i < ops.size → l i = false) ∧ S s v w)
theorem wp_region_then {id : Nat} {a : Act} {aF : (Nat → Value) → Act} {w : World} (N : Nat) (V : Nat → Value → World → Prop) (G : World → Prop) (Gr : World → World → Prop) (S : Nat → (Nat → Value) → World → Prop)
    (hF : ∀ vals, putAll ops vals (fun _ => true) a ops.size = aF vals) (hm : P.follows .mixedOrders = true) (hd : dstsApart ops = true) (hb : edgesBackB ops = true) (hng : guardsOk ops = true)
    (hsz : (List.range ops.size).all (fun i => match dstOf ops i with | some d => decide (d < a.tmps.size) | none => true) = true)
    (hN : decide (N < ops.size) = true) (htail : tailOk ops N = true)
    (hstab : ∀ i v w w', V i v w → Gr w w' → V i v w')
    (h0 : G w.drew)
    (hstart : ∀ v w', G w' → (∀ j, j < N → V j (v j) w') → S N v w')
    (hstepA : EachOp (fun i o => StepF P ops N V G Gr a i o) 0 (ops.toList.take N))
    (hstepB : EachOp (fun i o => StepT P ops S a i o) N (ops.toList.drop N))
    (hdone : ∀ (vals : Nat → Value) w', S ops.size vals w' → Q .normal (aF vals) w') :
    (Code.region id ops true).wp P Q a w := by
  have hNs : N < ops.size := by simpa using hN
  have hall : ∀ (l : List Oper) (n : Nat), (∀ k o, l[k]? = some o → (n + k < N → StepF P ops N V G Gr a (n + k) o) ∧ (N ≤ n + k → StepT P ops S a (n + k) o)) → (∀ k o, l[k]? = some o → ops[n + k]? = some o) →
      EachOp (fun i o => ops[i]? = some o ∧ (i < N → StepF P ops N V G Gr a i o) ∧ (N ≤ i → StepT P ops S a i o)) n l := by
    intro l
    induction l with
    | nil => intro n _ _; trivial
    | cons x l ih =>
      intro n h1 h2
      refine ⟨⟨by simpa using h2 0 x rfl, by simpa using h1 0 x rfl⟩, ih (n + 1) (fun k o ho => ?_) (fun k o ho => ?_)⟩
      · have := h1 (k + 1) o (by simpa using ho)
        rwa [show n + 1 + k = n + (k + 1) by omega]
      · have := h2 (k + 1) o (by simpa using ho)
        rwa [show n + 1 + k = n + (k + 1) by omega]
  have hlt : ∀ (i : Nat) (o : Oper), ops[i]? = some o → ∀ j, (depsOf o).contains j = true → j < i := by
    intro i o hio j hj
    unfold depsOf at hj
    rw [List.contains_iff_mem, List.mem_map] at hj
    obtain ⟨e, he, rfl⟩ := hj
    obtain ⟨he1, he2⟩ := List.mem_filter.1 he
    unfold edgesBackB at hb
    rw [Bool.and_eq_true] at hb
    have his : i < ops.size := (Array.getElem?_eq_some_iff.1 hio).1
    have h1 := List.all_eq_true.1 hb.1 i (List.mem_range.2 his)
    rw [hio] at h1
    have h2 := Array.all_eq_true_iff_forall_mem.1 h1 e (by simpa using he1)
    rw [he2] at h2
    simpa using h2
  have hda : ∀ (i : Nat) (o : Oper), ops[i]? = some o → depsAt ops i = depsOf o := by
    intro i o hio
    unfold depsAt; rw [hio]
  refine wp_region_invW9 (F := fun i o => ops[i]? = some o ∧ (i < N → StepF P ops N V G Gr a i o) ∧ (N ≤ i → StepT P ops S a i o)) (TailJ ops N V G S) hm hd hb hng hsz ?_ ?_ ?_ (hall ops.toList 0 (fun k o ho => ?_) (fun k o h => by simpa using h)) ?_
  · rintro l l' v w h ⟨h1, h2⟩
    refine ⟨fun j hj hl k hk => ?_, ?_⟩
    · rw [← h j hj] at hl
      have h3 := h1 j hj hl k hk
      have hks : k < ops.size := by
        obtain ⟨o, ho⟩ : ∃ o, ops[j]? = some o := ⟨_, Array.getElem?_eq_getElem hj⟩
        rw [hda j o ho] at hk
        have := hlt j o ho k hk
        omega
      rw [← h k hks]; exact h3
    · rcases h2 with ⟨h3, h4, h5⟩ | ⟨s, h3, h4, h5, h6, h7⟩
      · exact .inl ⟨fun i hi his => by rw [← h i his]; exact h3 i hi his, h4, fun j hj hl => h5 j hj (by rw [h j (by omega)]; exact hl)⟩
      · exact .inr ⟨s, h3, h4, fun i hi => by rw [← h i (by omega)]; exact h5 i hi, fun i hi his => by rw [← h i his]; exact h6 i hi his, h7⟩
  · exact ⟨(fun j _ h => by cases h), .inl ⟨(fun _ _ _ => rfl), h0, (fun j _ h => by cases h)⟩⟩
  · rintro i o ⟨hio, hA, hB⟩
    intro l v w' hl hdp hJ
    obtain ⟨hC, hP⟩ := hJ
    have his : i < ops.size := (Array.getElem?_eq_some_iff.1 hio).1
    have hC' : ∀ j, j < ops.size → doneL l i j = true → ∀ k, (depsAt ops j).contains k = true → doneL l i k = true := by
      intro j hj hlj k hk
      unfold doneL at hlj ⊢
      by_cases hki : k = i
      · rw [if_pos hki]
      · rw [if_neg hki]
        by_cases hji : j = i
        · subst hji
          rw [hda j o hio] at hk
          exact hdp k hk
        · rw [if_neg hji] at hlj
          exact hC j hj hlj k hk
    by_cases hiN : i < N
    · -- one of the first
      have hst := hA hiN
      rcases hP with ⟨h3, hG, hv⟩ | ⟨s, h3, h4, h5, h6, h7⟩
      case inr => rw [h5 i (by omega)] at hl; cases hl
      have hnx : ∀ x w'', V i x w'' → G w'' → (∀ j, j < N → l j = true → V j (v j) w'') → TailJ ops N V G S (doneL l i) (doneV v i x) w'' := by
        intro x w'' hx hG' hall'
        refine ⟨hC', .inl ⟨fun k hk hks => ?_, hG', fun j hj hlj => ?_⟩⟩
        · unfold doneL; rw [if_neg (by omega)]; exact h3 k hk hks
        · unfold doneL at hlj
          unfold doneV
          by_cases hji : j = i
          · subst hji; rw [if_pos rfl]; exact hx
          · rw [if_neg hji] at hlj ⊢; exact hall' j hj hlj
      obtain ⟨hgk, hst⟩ := hst
      have hgd : ∀ g b, o.guard = some (g, b) → (depsOf o).contains g = true := by
        intro g b hg
        have h1 := Array.all_eq_true_iff_forall_mem.1 hng o (Array.mem_of_getElem? hio)
        rw [hg] at h1
        simp only [Bool.and_eq_true] at h1
        exact h1.1.1
      refine ⟨fun g b hg => ?_, fun hg a' _hs h4 h5 K Qp hK => OpY.wp ?_⟩
      · obtain ⟨b', hb1, hb2⟩ := hgk g b hg
        have hgN : g < N := by have := hlt i o hio g (hgd g b hg); omega
        have hgv := hb1 _ _ (hv g hgN (hdp g (hgd g b hg)))
        exact ⟨b', hgv, fun hne => hnx undef w' (hb2 hne w') hG hv⟩
      · refine (hst w' hG (fun g b h v0 w0 hv0 => ?_) a'.eval (fun _ => rfl) (fun _ => rfl) (fun _ => rfl) (fun j d hj hjd => ?_) (fun d hfar => h5 d (fun j hjd => ?_))).mono fun x w'' h => hK x w'' (hnx x w'' h.1 h.2.1 (fun j hj hlj => hstab j _ _ _ (hv j hj hlj) h.2.2))
        · obtain ⟨b', hb1, -⟩ := hgk g b h
          have hgN : g < N := by have := hlt i o hio g (hgd g b h); omega
          have e1 := hb1 _ _ (hv g hgN (hdp g (hgd g b h)))
          have e2 := hg g b h
          rw [e1] at e2
          rw [hb1 _ _ hv0, e2]
        · rw [h4 j d hj hjd]
          exact hv j (by have := hlt i o hio j hj; omega) (hdp j hj)
        · rcases Nat.lt_or_ge j N with hjN | hjN
          · have := List.all_eq_true.1 hfar j (List.mem_range.2 hjN)
            simp [hjd] at this
          · have hjs : j < ops.size := by
              unfold dstOf at hjd
              rcases Nat.lt_or_ge j ops.size with h | h
              · exact h
              · rw [Array.getElem?_eq_none h] at hjd; cases hjd
            exact h3 j hjN hjs
    · -- one of the last
      have hst := hB (by omega)
      obtain ⟨hgn, hst⟩ := hst
      -- all ahead are done
      have hcl : ClosedL ops (fun k => if k < ops.size then l k else true) := by
        intro j hj k hk
        dsimp only at hj ⊢
        by_cases hks : k < ops.size
        · rw [if_pos hks]
          by_cases hjs : j < ops.size
          · rw [if_pos hjs] at hj
            exact hC j hjs hj k hk
          · exfalso
            unfold depsAt at hk
            rw [Array.getElem?_eq_none (by omega)] at hk
            cases hk
        · rw [if_neg hks]
      have hdn : ∀ j, j < i → l j = true := by
        intro j hj
        have ht := List.all_eq_true.1 htail i (List.mem_range.2 his)
        rw [Bool.or_eq_true] at ht
        rcases ht with ht | ht
        · simp at ht; omega
        · have ht := List.all_eq_true.1 ht j (List.mem_range.2 hj)
          have := reach_done hcl (i + 1) i j (fun k hk => by
            rw [hda i o hio] at hk
            by_cases hks : k < ops.size
            · rw [if_pos hks]; exact hdp k hk
            · rw [if_neg hks]) ht
          rwa [if_pos (by omega)] at this
      have hS : S i v w' ∧ ∀ k, i ≤ k → k < ops.size → l k = false := by
        rcases hP with ⟨h3, hG, hv⟩ | ⟨s, h3, h4, h5, h6, h7⟩
        · have hiN' : i = N := by
            rcases Nat.lt_or_ge N i with h | h
            · have := hdn N h
              rw [h3 N (Nat.le_refl _) hNs] at this
              cases this
            · omega
          subst hiN'
          exact ⟨hstart v w' hG (fun j hj => hv j hj (hdn j hj)), h3⟩
        · have hsi : s = i := by
            rcases Nat.lt_trichotomy s i with h | h | h
            · have h8 := hdn s h
              rw [h6 s (Nat.le_refl _) (by omega)] at h8
              cases h8
            · exact h
            · rw [h5 i h] at hl; cases hl
          subst hsi
          exact ⟨h7, h6⟩
      refine ⟨(fun g b hg => by rw [hgn] at hg; cases hg), fun _ a' _hs h4 h5 K Qp hK => OpY.wp ?_⟩
      refine (hst v w' hS.1 a'.eval (fun _ => rfl) (fun _ => rfl) (fun _ => rfl) h4 (fun d _ hfar => h5 d (fun j hjd => ?_))).mono fun x w'' h => hK x w'' ⟨hC', .inr ⟨i + 1, by omega, by omega, fun k hk => ?_, fun k hk hks => ?_, h⟩⟩
      · exfalso
        unfold farOf at hfar
        have hjs : j < ops.size := by
          unfold dstOf at hjd
          rcases Nat.lt_or_ge j ops.size with h | h
          · exact h
          · rw [Array.getElem?_eq_none h] at hjd; cases hjd
        have := List.all_eq_true.1 hfar j (List.mem_range.2 hjs)
        simp [hjd] at this
      · unfold doneL
        by_cases hki : k = i
        · rw [if_pos hki]
        · rw [if_neg hki]; exact hdn k (by omega)
      · unfold doneL
        rw [if_neg (by omega)]; exact hS.2 k (by omega) hks
  · rw [Nat.zero_add]
    refine ⟨fun hk => ?_, fun hk => ?_⟩
    · have := EachOp.get hstepA k o (by rw [List.getElem?_take]; simp [hk]; simpa using ho)
      rwa [Nat.zero_add] at this
    · have := EachOp.get hstepB (k - N) o (by rw [List.getElem?_drop]; rw [show N + (k - N) = k by omega]; simpa using ho)
      rwa [show N + (k - N) = k by omega] at this
  · rintro v w' ⟨-, h⟩
    rw [hF]
    rcases h with ⟨h3, -, -⟩ | ⟨s, h3, h4, h5, h6, h7⟩
    · exact absurd (h3 N (Nat.le_refl _) hNs) (by simp)
    · have : s = ops.size := by
        rcases Nat.lt_or_ge s ops.size with h | h
        · exact absurd (h6 s (Nat.le_refl _) h) (by simp)
        · omega
      subst this
      exact hdone v w' h7
end
end Go.Proofs.YtcddlnmcjmhbcaaDoor
